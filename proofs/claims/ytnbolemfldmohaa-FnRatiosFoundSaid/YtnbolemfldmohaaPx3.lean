/- Calls of the functions of the given program return what the plain Lean functions of the same names return; and a row of a law out of its pure statement. Written by a program of this session out of the translation; Lean checks it. No condition. -/
import Derived.Test.YtnbolemfldmohaaPx0
import Derived.Test.YtnbolemfldmohaaCt
import Derived.Test.YtnbolemfldmohaaPx2
namespace Go.Proofs.Ytnbolemfldmohaa.P
open Go.RowKit Go.Proofs.YtnbolemfldmohaaW.PrintWords Go.Proofs.YtnbolemfldmohaaW.PrintLast Go.Proofs.YtnbolemfldmohaaW.PrintMore
attribute [local go_sem] max2_int min2_int max_two min_two max_three min_three max_four min_four   -- for this text's walks alone
set_option linter.unusedVariables false
set_option linter.unusedSimpArgs false

/-! ### spec_YearsUntilRatio: function 29 -/
def spec_YearsUntilRatio.j0 : Nat → Int → Int → Bool → Int → Int → Option (Int × Int × Bool)
 | 0, _, _, _, _, _ => none
 | k + 1, x0, x1, x30, x195000, x195001 => if x30 = true then (some (0, 0, false)) else ((spec_raLow.f k (wrap64 ((wrap64 (x195001 * x0)) - (wrap64 (x195000 * x1)))) (wrap64 (x195000 - x195001))).bind fun bt198 => ((spec_l1Least.f x0 x1).bind fun t200 => (if (wrap64 ((wrap64 (t200 * bt198.2)) + bt198.1)) ≤ 0 then (some (0, 0, false)) else (some (bt198.1, bt198.2, true)))))
def spec_YearsUntilRatio.f (k : Nat) (a0 : Int) (a1 : Int) (a2_0 : Int) (a2_1 : Int) : Option (Int × Int × Bool) := (spec_raAge.f a0).bind fun t195 => (if t195 = true then ((spec_raAge.f a1).bind fun t196 => (if t196 = true then ((spec_raGood.f a2_0 a2_1).bind fun t197 => (if t197 = true then (spec_YearsUntilRatio.j0 k a0 a1 (a2_0 == a2_1) a2_0 a2_1) else (spec_YearsUntilRatio.j0 k a0 a1 true a2_0 a2_1))) else (spec_YearsUntilRatio.j0 k a0 a1 true a2_0 a2_1))) else (spec_YearsUntilRatio.j0 k a0 a1 true a2_0 a2_1))
set_option maxHeartbeats 8000000 in
set_option maxRecDepth 100000 in
theorem spec_YearsUntilRatio.calls (k : Nat) (a0 : Int) (a1 : Int) (a2_0 : Int) (a2_1 : Int) (r1 : Int) (r2 : Int) (r3 : Bool) (w : World) (h : spec_YearsUntilRatio.f k a0 a1 a2_0 a2_1 = some (r1, r2, r3)) :
  Calls Try.prog 29 #[.int .i64 a0, .int .i64 a1, .agg #[.int .i64 a2_0, .int .i64 a2_1]] w fun e w' => e = .returned (.tuple #[.int .i64 r1, .int .i64 r2, .bool r3]) ∧ Below w.heap.size w w' := by
 have hu43 := Try.underlying43
 have HB := Aside0.mk (Below.refl w.heap.size w)
 have H : ((spec_raAge.f a0).bind fun t195 => (if t195 = true then ((spec_raAge.f a1).bind fun t196 => (if t196 = true then ((spec_raGood.f a2_0 a2_1).bind fun t197 => (if t197 = true then (spec_YearsUntilRatio.j0 k a0 a1 (a2_0 == a2_1) a2_0 a2_1) else (spec_YearsUntilRatio.j0 k a0 a1 true a2_0 a2_1))) else (spec_YearsUntilRatio.j0 k a0 a1 true a2_0 a2_1))) else (spec_YearsUntilRatio.j0 k a0 a1 true a2_0 a2_1))) = some (r1, r2, r3) := h
 clear h
 have HC4 := Aside0.mk H
 clear H
 go_enter Try.func29, Try.ntmps29
 go_upto_region 1 with (first | ((with_reducible refine gate_dst (N := 5) rfl ?_); refine box_event ?hg (N := 5) ?hd (cs := #[.int .i64 a2_0, .int .i64 a2_1]) (t := 43) ?hr ?_; (case hd => rfl); (case hg => rfl); (case hr => first | (go_simp; done) | (go_simp; rfl)); intro gb194 hg w5 hbox hb; have n0_ := kH HB hb; have n1_ := Aside0.mk (hbox); have n2_ := kG HB hg; have n3_ := kG HB hg; replace HB := n0_; have BK194 := n1_; have GW194 := n2_; have GE194 := n3_; clear n0_ n1_ n2_ n3_; clear hb hbox hg))
 (try simp only [Act.put, List.setIfInBounds_toArray, List.set_cons_zero, List.set_cons_succ])
 go_cut [30] from 1 to 0 (fun v30 wc => ∃ (kq : Nat) (x30_3 : Bool), v30 = .bool x30_3 ∧ Aside0 (spec_YearsUntilRatio.j0 kq a0 a1 x30_3 a2_0 a2_1 = some (r1, r2, r3)) ∧ Aside0 (kq ≤ k) ∧ Aside0 (wc.heap[gb194]? = some (.cells #[.int .i64 a2_0, .int .i64 a2_1] 43 (0, 0))) ∧ Aside0 (Below w.heap.size w wc))
 case first =>
  have H := HC4.out
  clear HC4
  replace H := Option.bind_eq_some_iff.mp H
  obtain ⟨t195, A60, H⟩ := H
  replace H : (if t195 = true then ((spec_raAge.f a1).bind fun t196 => (if t196 = true then ((spec_raGood.f a2_0 a2_1).bind fun t197 => (if t197 = true then (spec_YearsUntilRatio.j0 k a0 a1 (a2_0 == a2_1) a2_0 a2_1) else (spec_YearsUntilRatio.j0 k a0 a1 true a2_0 a2_1))) else (spec_YearsUntilRatio.j0 k a0 a1 true a2_0 a2_1))) else (spec_YearsUntilRatio.j0 k a0 a1 true a2_0 a2_1)) = some (r1, r2, r3) := H
  have A6 := Aside0.mk A60
  clear A60
  by_cases c7 : t195 = true
  ·subst c7
   have H1 : ((spec_raAge.f a1).bind fun t196 => (if t196 = true then ((spec_raGood.f a2_0 a2_1).bind fun t197 => (if t197 = true then (spec_YearsUntilRatio.j0 k a0 a1 (a2_0 == a2_1) a2_0 a2_1) else (spec_YearsUntilRatio.j0 k a0 a1 true a2_0 a2_1))) else (spec_YearsUntilRatio.j0 k a0 a1 true a2_0 a2_1))) = some (r1, r2, r3) := by rw [if_pos rfl] at H; exact H
   clear H
   have H := H1
   clear H1
   replace H := Option.bind_eq_some_iff.mp H
   obtain ⟨t196, A80, H⟩ := H
   replace H : (if t196 = true then ((spec_raGood.f a2_0 a2_1).bind fun t197 => (if t197 = true then (spec_YearsUntilRatio.j0 k a0 a1 (a2_0 == a2_1) a2_0 a2_1) else (spec_YearsUntilRatio.j0 k a0 a1 true a2_0 a2_1))) else (spec_YearsUntilRatio.j0 k a0 a1 true a2_0 a2_1)) = some (r1, r2, r3) := H
   have A8 := Aside0.mk A80
   clear A80
   by_cases c9 : t196 = true
   ·subst c9
    have H1 : ((spec_raGood.f a2_0 a2_1).bind fun t197 => (if t197 = true then (spec_YearsUntilRatio.j0 k a0 a1 (a2_0 == a2_1) a2_0 a2_1) else (spec_YearsUntilRatio.j0 k a0 a1 true a2_0 a2_1))) = some (r1, r2, r3) := by rw [if_pos rfl] at H; exact H
    clear H
    have H := H1
    clear H1
    replace H := Option.bind_eq_some_iff.mp H
    obtain ⟨t197, A100, H⟩ := H
    replace H : (if t197 = true then (spec_YearsUntilRatio.j0 k a0 a1 (a2_0 == a2_1) a2_0 a2_1) else (spec_YearsUntilRatio.j0 k a0 a1 true a2_0 a2_1)) = some (r1, r2, r3) := H
    have A10 := Aside0.mk A100
    clear A100
    by_cases c11 : t197 = true
    ·subst c11
     have H1 : (spec_YearsUntilRatio.j0 k a0 a1 (a2_0 == a2_1) a2_0 a2_1) = some (r1, r2, r3) := by rw [if_pos rfl] at H; exact H
     clear H
     have H := H1
     clear H1
     have H' := Aside0.mk H
     clear H
     go_wp2_with (first | ((with_reducible refine gate_callee (f := 73) rfl ?_); refine kE (some 12) Try.func73 #[.int .i64 a0] rfl ?_; (with_reducible refine (spec_raAge.calls a0 true _ A6.out).mono ?_); rintro e w' ⟨rfl, ⟨nd, rfl⟩⟩; refine ⟨_, rfl, ?_⟩) | (go_at_call 73; (with_reducible refine (spec_raAge.calls a1 true _ A8.out).mono ?_); rintro e w' ⟨rfl, ⟨nd, rfl⟩⟩; have hcz12_0 : w5.cell? ⟨gb194, 0, none⟩ = some (.int .i64 a2_0) := (blk_cell BK194.out 0).trans rfl; have hcz12_1 : w5.cell? ⟨gb194, 1, none⟩ = some (.int .i64 a2_1) := (blk_cell BK194.out 1).trans rfl; have hfz12_0 := blk_frozen BK194.out 0; have hfz12_1 := blk_frozen BK194.out 1) | (go_at_call 74; (with_reducible refine (spec_raGood.calls a2_0 a2_1 true _ A10.out).mono ?_); rintro e w13 ⟨rfl, hb⟩; have n0_ := kB BK194 hb; have n1_ := kH HB hb; replace BK194 := n0_; replace HB := n1_; clear n0_ n1_; (try clear hb); have hcz14_0 : w13.cell? ⟨gb194, 0, none⟩ = some (.int .i64 a2_0) := (blk_cell BK194.out 0).trans rfl; have hcz14_1 : w13.cell? ⟨gb194, 1, none⟩ = some (.int .i64 a2_1) := (blk_cell BK194.out 1).trans rfl; have hfz14_0 := blk_frozen BK194.out 0; have hfz14_1 := blk_frozen BK194.out 1))
     go_meet
     case rel => exact ⟨_, ((a2_0 == a2_1)), (by first | rfl | (simp; done) | (simp [*]; done)), H', ⟨by first | omega | exact Nat.le_refl _⟩, kA, kI⟩
    ·replace c11 := Bool.eq_false_iff.mpr c11
     subst c11
     have H1 : (spec_YearsUntilRatio.j0 k a0 a1 true a2_0 a2_1) = some (r1, r2, r3) := by rw [if_neg (show ¬ (false = true) by decide)] at H; exact H
     clear H
     have H := H1
     clear H1
     have H' := Aside0.mk H
     clear H
     go_wp2_with (first | ((with_reducible refine gate_callee (f := 73) rfl ?_); refine kE (some 12) Try.func73 #[.int .i64 a0] rfl ?_; (with_reducible refine (spec_raAge.calls a0 true _ A6.out).mono ?_); rintro e w' ⟨rfl, ⟨nd, rfl⟩⟩; refine ⟨_, rfl, ?_⟩) | (go_at_call 73; (with_reducible refine (spec_raAge.calls a1 true _ A8.out).mono ?_); rintro e w' ⟨rfl, ⟨nd, rfl⟩⟩; have hcz15_0 : w5.cell? ⟨gb194, 0, none⟩ = some (.int .i64 a2_0) := (blk_cell BK194.out 0).trans rfl; have hcz15_1 : w5.cell? ⟨gb194, 1, none⟩ = some (.int .i64 a2_1) := (blk_cell BK194.out 1).trans rfl; have hfz15_0 := blk_frozen BK194.out 0; have hfz15_1 := blk_frozen BK194.out 1) | (go_at_call 74; (with_reducible refine (spec_raGood.calls a2_0 a2_1 false _ A10.out).mono ?_); rintro e w16 ⟨rfl, hb⟩; have n0_ := kB BK194 hb; have n1_ := kH HB hb; replace BK194 := n0_; replace HB := n1_; clear n0_ n1_; (try clear hb)))
     go_meet
     case rel => exact ⟨_, (true), (by first | rfl | (simp; done) | (simp [*]; done)), H', ⟨by first | omega | exact Nat.le_refl _⟩, kA, kI⟩
   ·replace c9 := Bool.eq_false_iff.mpr c9
    subst c9
    have H1 : (spec_YearsUntilRatio.j0 k a0 a1 true a2_0 a2_1) = some (r1, r2, r3) := by rw [if_neg (show ¬ (false = true) by decide)] at H; exact H
    clear H
    have H := H1
    clear H1
    have H' := Aside0.mk H
    clear H
    go_wp2_with (first | ((with_reducible refine gate_callee (f := 73) rfl ?_); refine kE (some 12) Try.func73 #[.int .i64 a0] rfl ?_; (with_reducible refine (spec_raAge.calls a0 true _ A6.out).mono ?_); rintro e w' ⟨rfl, ⟨nd, rfl⟩⟩; refine ⟨_, rfl, ?_⟩) | (go_at_call 73; (with_reducible refine (spec_raAge.calls a1 false _ A8.out).mono ?_); rintro e w' ⟨rfl, ⟨nd, rfl⟩⟩))
    go_meet
    case rel => exact ⟨_, (true), (by first | rfl | (simp; done) | (simp [*]; done)), H', ⟨by first | omega | exact Nat.le_refl _⟩, kA, kI⟩
  ·replace c7 := Bool.eq_false_iff.mpr c7
   subst c7
   have H1 : (spec_YearsUntilRatio.j0 k a0 a1 true a2_0 a2_1) = some (r1, r2, r3) := by rw [if_neg (show ¬ (false = true) by decide)] at H; exact H
   clear H
   have H := H1
   clear H1
   have H' := Aside0.mk H
   clear H
   go_wp2_with (first | ((with_reducible refine gate_callee (f := 73) rfl ?_); refine kE (some 12) Try.func73 #[.int .i64 a0] rfl ?_; (with_reducible refine (spec_raAge.calls a0 false _ A6.out).mono ?_); rintro e w' ⟨rfl, ⟨nd, rfl⟩⟩; refine ⟨_, rfl, ?_⟩))
   go_meet
   case rel => exact ⟨_, (true), (by first | rfl | (simp; done) | (simp [*]; done)), H', ⟨by first | omega | exact Nat.le_refl _⟩, kA, kI⟩
 case rest =>
  clear HC4
  obtain ⟨kq, x30_3, rfl, HA, HJ3, BK194, HB⟩ := hcut
  cases kq with
  | zero => exact absurd HA.out (by simp [spec_YearsUntilRatio.j0])
  | succ kj3 =>
   have H := HA.out
   clear HA
   simp only [spec_YearsUntilRatio.j0] at H
   by_cases c17 : x30_3 = true
   ·subst c17
    have H1 : (some (0, 0, false)) = some (r1, r2, r3) := by rw [if_pos rfl] at H; exact H
    clear H
    have H := H1
    clear H1
    simp only [Option.some.injEq, Prod.mk.injEq] at H
    obtain ⟨rfl, rfl, rfl⟩ := H
    go_wp2
    go_ret3
    exact ⟨by first | rfl | (simp [errW_none, errW_some] <;> rfl) | (simp [*, errW_none, errW_some] <;> rfl), kO⟩
   ·replace c17 := Bool.eq_false_iff.mpr c17
    subst c17
    have H1 : ((spec_raLow.f kj3 (wrap64 ((wrap64 (a2_1 * a0)) - (wrap64 (a2_0 * a1)))) (wrap64 (a2_0 - a2_1))).bind fun bt198 => ((spec_l1Least.f a0 a1).bind fun t200 => (if (wrap64 ((wrap64 (t200 * bt198.2)) + bt198.1)) ≤ 0 then (some (0, 0, false)) else (some (bt198.1, bt198.2, true))))) = some (r1, r2, r3) := by rw [if_neg (show ¬ (false = true) by decide)] at H; exact H
    clear H
    have H := H1
    clear H1
    replace H := Option.bind_eq_some_iff.mp H
    obtain ⟨⟨t198, t199⟩, A180, H⟩ := H
    replace H : ((spec_l1Least.f a0 a1).bind fun t200 => (if (wrap64 ((wrap64 (t200 * t199)) + t198)) ≤ 0 then (some (0, 0, false)) else (some (t198, t199, true)))) = some (r1, r2, r3) := H
    have A18 := Aside0.mk A180
    clear A180
    replace H := Option.bind_eq_some_iff.mp H
    obtain ⟨t200, A190, H⟩ := H
    replace H : (if (wrap64 ((wrap64 (t200 * t199)) + t198)) ≤ 0 then (some (0, 0, false)) else (some (t198, t199, true))) = some (r1, r2, r3) := H
    have A19 := Aside0.mk A190
    clear A190
    by_cases c20 : (wrap64 ((wrap64 (t200 * t199)) + t198)) ≤ 0
    ·rw [if_pos c20] at H
     have c20b0 : decide ((wrap64 ((wrap64 (t200 * t199)) + t198)) ≤ 0) = true := decide_eq_true c20
     clear c20
     simp only [Option.some.injEq, Prod.mk.injEq] at H
     obtain ⟨rfl, rfl, rfl⟩ := H
     have hcz21_0 : wc.cell? ⟨gb194, 0, none⟩ = some (.int .i64 a2_0) := (blk_cell BK194.out 0).trans rfl
     have hcz21_1 : wc.cell? ⟨gb194, 1, none⟩ = some (.int .i64 a2_1) := (blk_cell BK194.out 1).trans rfl
     have hfz21_0 := blk_frozen BK194.out 0
     have hfz21_1 := blk_frozen BK194.out 1
     go_wp2_with (first | ((with_reducible refine gate_callee (f := 54) rfl ?_); refine kE (some 46) Try.func54 #[.int .i64 (wrap64 ((wrap64 (a2_1 * a0)) - (wrap64 (a2_0 * a1)))), .int .i64 (wrap64 (a2_0 - a2_1))] rfl ?_; (with_reducible refine (spec_raLow.calls kj3 (wrap64 ((wrap64 (a2_1 * a0)) - (wrap64 (a2_0 * a1)))) (wrap64 (a2_0 - a2_1)) t198 t199 _ A18.out).mono ?_); rintro e w' ⟨rfl, ⟨nd, rfl⟩⟩; refine ⟨_, rfl, ?_⟩) | ((with_reducible refine gate_callee (f := 75) rfl ?_); refine kE (some 51) Try.func75 #[.int .i64 a0, .int .i64 a1] rfl ?_; (with_reducible refine (spec_l1Least.calls a0 a1 t200 _ A19.out).mono ?_); rintro e w' ⟨rfl, ⟨nd, rfl⟩⟩; refine ⟨_, rfl, ?_⟩))
     go_ret3
     exact ⟨by first | rfl | (simp [errW_none, errW_some] <;> rfl) | (simp [*, errW_none, errW_some] <;> rfl), kO⟩
    ·rw [if_neg c20] at H
     have c20b0 : decide ((wrap64 ((wrap64 (t200 * t199)) + t198)) ≤ 0) = false := decide_eq_false c20
     clear c20
     simp only [Option.some.injEq, Prod.mk.injEq] at H
     obtain ⟨rfl, rfl, rfl⟩ := H
     have hcz22_0 : wc.cell? ⟨gb194, 0, none⟩ = some (.int .i64 a2_0) := (blk_cell BK194.out 0).trans rfl
     have hcz22_1 : wc.cell? ⟨gb194, 1, none⟩ = some (.int .i64 a2_1) := (blk_cell BK194.out 1).trans rfl
     have hfz22_0 := blk_frozen BK194.out 0
     have hfz22_1 := blk_frozen BK194.out 1
     go_wp2_with (first | ((with_reducible refine gate_callee (f := 54) rfl ?_); refine kE (some 46) Try.func54 #[.int .i64 (wrap64 ((wrap64 (a2_1 * a0)) - (wrap64 (a2_0 * a1)))), .int .i64 (wrap64 (a2_0 - a2_1))] rfl ?_; (with_reducible refine (spec_raLow.calls kj3 (wrap64 ((wrap64 (a2_1 * a0)) - (wrap64 (a2_0 * a1)))) (wrap64 (a2_0 - a2_1)) t198 t199 _ A18.out).mono ?_); rintro e w' ⟨rfl, ⟨nd, rfl⟩⟩; refine ⟨_, rfl, ?_⟩) | ((with_reducible refine gate_callee (f := 75) rfl ?_); refine kE (some 51) Try.func75 #[.int .i64 a0, .int .i64 a1] rfl ?_; (with_reducible refine (spec_l1Least.calls a0 a1 t200 _ A19.out).mono ?_); rintro e w' ⟨rfl, ⟨nd, rfl⟩⟩; refine ⟨_, rfl, ?_⟩))
     go_ret3
     exact ⟨by first | rfl | (simp [errW_none, errW_some] <;> rfl) | (simp [*, errW_none, errW_some] <;> rfl), kO⟩

/-! ### impl_areUnlike: function 76 -/
def impl_areUnlike.f (a0 : Int) (a1 : Int) : Option (Bool) := (impl_isAge.f a0).bind fun t201 => (if t201 = true then ((impl_isAge.f a1).bind fun t202 => (if t202 = true then (some (a0 != a1)) else (some false))) else (some false))
set_option maxHeartbeats 8000000 in
set_option maxRecDepth 100000 in
theorem impl_areUnlike.calls (a0 : Int) (a1 : Int) (r : Bool) (w : World) (h : impl_areUnlike.f a0 a1 = some r) :
  Calls Try.prog 76 #[.int .i64 a0, .int .i64 a1] w fun e w' => e = .returned (.bool r) ∧ Drawn0 w w' := by
 have H : ((impl_isAge.f a0).bind fun t201 => (if t201 = true then ((impl_isAge.f a1).bind fun t202 => (if t202 = true then (some (a0 != a1)) else (some false))) else (some false))) = some r := h
 clear h
 replace H := Option.bind_eq_some_iff.mp H
 obtain ⟨t201, A30, H⟩ := H
 replace H : (if t201 = true then ((impl_isAge.f a1).bind fun t202 => (if t202 = true then (some (a0 != a1)) else (some false))) else (some false)) = some r := H
 have A3 := Aside0.mk A30
 clear A30
 by_cases c4 : t201 = true
 ·subst c4
  have H1 : ((impl_isAge.f a1).bind fun t202 => (if t202 = true then (some (a0 != a1)) else (some false))) = some r := by rw [if_pos rfl] at H; exact H
  clear H
  have H := H1
  clear H1
  replace H := Option.bind_eq_some_iff.mp H
  obtain ⟨t202, A50, H⟩ := H
  replace H : (if t202 = true then (some (a0 != a1)) else (some false)) = some r := H
  have A5 := Aside0.mk A50
  clear A50
  by_cases c6 : t202 = true
  ·subst c6
   have H1 : (some (a0 != a1)) = some r := by rw [if_pos rfl] at H; exact H
   clear H
   have H := H1
   clear H1
   obtain rfl := Option.some.inj H
   go_enter Try.func76, Try.ntmps76
   go_wp2_with (first | ((with_reducible refine gate_callee (f := 71) rfl ?_); refine kE (some 6) Try.func71 #[.int .i64 a0] rfl ?_; (with_reducible refine (impl_isAge.calls a0 true _ A3.out).mono ?_); rintro e w' ⟨rfl, ⟨nd, rfl⟩⟩; refine ⟨_, rfl, ?_⟩) | (go_at_call 71; (with_reducible refine (impl_isAge.calls a1 true _ A5.out).mono ?_); rintro e w' ⟨rfl, ⟨nd, rfl⟩⟩))
   go_ret
   exact ⟨by first | rfl | (simp; done) | (simp [*]; done), by repeat (first | exact Drawn0.refl _ | apply Drawn0.step)⟩
  ·replace c6 := Bool.eq_false_iff.mpr c6
   subst c6
   have H1 : (some false) = some r := by rw [if_neg (show ¬ (false = true) by decide)] at H; exact H
   clear H
   have H := H1
   clear H1
   obtain rfl := Option.some.inj H
   go_enter Try.func76, Try.ntmps76
   go_wp2_with (first | ((with_reducible refine gate_callee (f := 71) rfl ?_); refine kE (some 6) Try.func71 #[.int .i64 a0] rfl ?_; (with_reducible refine (impl_isAge.calls a0 true _ A3.out).mono ?_); rintro e w' ⟨rfl, ⟨nd, rfl⟩⟩; refine ⟨_, rfl, ?_⟩) | (go_at_call 71; (with_reducible refine (impl_isAge.calls a1 false _ A5.out).mono ?_); rintro e w' ⟨rfl, ⟨nd, rfl⟩⟩))
   go_ret
   exact ⟨by first | rfl | (simp; done) | (simp [*]; done), by repeat (first | exact Drawn0.refl _ | apply Drawn0.step)⟩
 ·replace c4 := Bool.eq_false_iff.mpr c4
  subst c4
  have H1 : (some false) = some r := by rw [if_neg (show ¬ (false = true) by decide)] at H; exact H
  clear H
  have H := H1
  clear H1
  obtain rfl := Option.some.inj H
  go_enter Try.func76, Try.ntmps76
  go_wp2_with (first | ((with_reducible refine gate_callee (f := 71) rfl ?_); refine kE (some 6) Try.func71 #[.int .i64 a0] rfl ?_; (with_reducible refine (impl_isAge.calls a0 false _ A3.out).mono ?_); rintro e w' ⟨rfl, ⟨nd, rfl⟩⟩; refine ⟨_, rfl, ?_⟩))
  go_ret
  exact ⟨by first | rfl | (simp; done) | (simp [*]; done), by repeat (first | exact Drawn0.refl _ | apply Drawn0.step)⟩

/-! ### impl_NearestYear: function 30 -/
mutual
def impl_NearestYear.j0 : Nat → Int → Int → Bool → Int → Int → Option (Int × Bool)
 | 0, _, _, _, _, _ => none
 | k + 1, x0, x1, x22, x204000, x204001 => if x22 = true then (some (0, false)) else (impl_NearestYear.l0 k x0 x1 0 0 1 false (wrap64 (1 - (mn x0 x1))) x204000 x204001)
def impl_NearestYear.l0 : Nat → Int → Int → Int → Int → Int → Bool → Int → Int → Int → Option (Int × Bool)
 | 0, _, _, _, _, _, _, _, _, _ => none
 | k + 1, x0, x1, x8, x9, x10, x11, x12, x204000, x204001 => if x12 ≤ 120 then (if x11 = true then (if (wrap64 ((mx (wrap64 ((wrap64 ((wrap64 (x0 + x12)) * x204001)) - (wrap64 (x204000 * (wrap64 (x1 + x12)))))) (wrap64 (-(wrap64 ((wrap64 ((wrap64 (x0 + x12)) * x204001)) - (wrap64 (x204000 * (wrap64 (x1 + x12))))))))) * x10)) < (wrap64 (x9 * (wrap64 (x1 + x12)))) then (impl_NearestYear.l0 k x0 x1 x12 (mx (wrap64 ((wrap64 ((wrap64 (x0 + x12)) * x204001)) - (wrap64 (x204000 * (wrap64 (x1 + x12)))))) (wrap64 (-(wrap64 ((wrap64 ((wrap64 (x0 + x12)) * x204001)) - (wrap64 (x204000 * (wrap64 (x1 + x12))))))))) (wrap64 (x1 + x12)) true (wrap64 (x12 + 1)) x204000 x204001) else (impl_NearestYear.l0 k x0 x1 x8 x9 x10 x11 (wrap64 (x12 + 1)) x204000 x204001)) else (impl_NearestYear.l0 k x0 x1 x12 (mx (wrap64 ((wrap64 ((wrap64 (x0 + x12)) * x204001)) - (wrap64 (x204000 * (wrap64 (x1 + x12)))))) (wrap64 (-(wrap64 ((wrap64 ((wrap64 (x0 + x12)) * x204001)) - (wrap64 (x204000 * (wrap64 (x1 + x12))))))))) (wrap64 (x1 + x12)) true (wrap64 (x12 + 1)) x204000 x204001)) else (some (x8, true))
end
def impl_NearestYear.f (k : Nat) (a0 : Int) (a1 : Int) (a2_0 : Int) (a2_1 : Int) : Option (Int × Bool) := (impl_areUnlike.f a0 a1).bind fun t204 => (if t204 = true then ((impl_IsRatio.f a2_0 a2_1).bind fun t205 => (impl_NearestYear.j0 k a0 a1 (!t205) a2_0 a2_1)) else (impl_NearestYear.j0 k a0 a1 true a2_0 a2_1))
set_option maxHeartbeats 8000000 in
set_option maxRecDepth 100000 in
theorem impl_NearestYear.calls (k : Nat) (a0 : Int) (a1 : Int) (a2_0 : Int) (a2_1 : Int) (r1 : Int) (r2 : Bool) (w : World) (h : impl_NearestYear.f k a0 a1 a2_0 a2_1 = some (r1, r2)) :
  Calls Try.prog 30 #[.int .i64 a0, .int .i64 a1, .agg #[.int .i64 a2_0, .int .i64 a2_1]] w fun e w' => e = .returned (.tuple #[.int .i64 r1, .bool r2]) ∧ Below w.heap.size w w' := by
 have hu43 := Try.underlying43
 have HB := Aside0.mk (Below.refl w.heap.size w)
 have H : ((impl_areUnlike.f a0 a1).bind fun t204 => (if t204 = true then ((impl_IsRatio.f a2_0 a2_1).bind fun t205 => (impl_NearestYear.j0 k a0 a1 (!t205) a2_0 a2_1)) else (impl_NearestYear.j0 k a0 a1 true a2_0 a2_1))) = some (r1, r2) := h
 clear h
 have HC4 := Aside0.mk H
 clear H
 go_enter Try.func30, Try.ntmps30
 go_upto_region 1 with (first | ((with_reducible refine gate_dst (N := 5) rfl ?_); refine box_event ?hg (N := 5) ?hd (cs := #[.int .i64 a2_0, .int .i64 a2_1]) (t := 43) ?hr ?_; (case hd => rfl); (case hg => rfl); (case hr => first | (go_simp; done) | (go_simp; rfl)); intro gb203 hg w5 hbox hb; have n0_ := kH HB hb; have n1_ := Aside0.mk (hbox); have n2_ := kG HB hg; have n3_ := kG HB hg; replace HB := n0_; have BK203 := n1_; have GW203 := n2_; have GE203 := n3_; clear n0_ n1_ n2_ n3_; clear hb hbox hg))
 (try simp only [Act.put, List.setIfInBounds_toArray, List.set_cons_zero, List.set_cons_succ])
 go_cut [22] from 1 to 0 (fun v22 wc => ∃ (kq : Nat) (x22_3 : Bool), v22 = .bool x22_3 ∧ Aside0 (impl_NearestYear.j0 kq a0 a1 x22_3 a2_0 a2_1 = some (r1, r2)) ∧ Aside0 (kq ≤ k) ∧ Aside0 (wc.heap[gb203]? = some (.cells #[.int .i64 a2_0, .int .i64 a2_1] 43 (0, 0))) ∧ Aside0 (Below w.heap.size w wc))
 case first =>
  have H := HC4.out
  clear HC4
  replace H := Option.bind_eq_some_iff.mp H
  obtain ⟨t204, A60, H⟩ := H
  replace H : (if t204 = true then ((impl_IsRatio.f a2_0 a2_1).bind fun t205 => (impl_NearestYear.j0 k a0 a1 (!t205) a2_0 a2_1)) else (impl_NearestYear.j0 k a0 a1 true a2_0 a2_1)) = some (r1, r2) := H
  have A6 := Aside0.mk A60
  clear A60
  by_cases c7 : t204 = true
  ·subst c7
   have H1 : ((impl_IsRatio.f a2_0 a2_1).bind fun t205 => (impl_NearestYear.j0 k a0 a1 (!t205) a2_0 a2_1)) = some (r1, r2) := by rw [if_pos rfl] at H; exact H
   clear H
   have H := H1
   clear H1
   replace H := Option.bind_eq_some_iff.mp H
   obtain ⟨t205, A80, H⟩ := H
   replace H : (impl_NearestYear.j0 k a0 a1 (!t205) a2_0 a2_1) = some (r1, r2) := H
   have A8 := Aside0.mk A80
   clear A80
   have H' := Aside0.mk H
   clear H
   go_wp2_with (first | ((with_reducible refine gate_callee (f := 76) rfl ?_); refine kE (some 16) Try.func76 #[.int .i64 a0, .int .i64 a1] rfl ?_; (with_reducible refine (impl_areUnlike.calls a0 a1 true _ A6.out).mono ?_); rintro e w' ⟨rfl, ⟨nd, rfl⟩⟩; refine ⟨_, rfl, ?_⟩; have hcz9_0 : w5.cell? ⟨gb203, 0, none⟩ = some (.int .i64 a2_0) := (blk_cell BK203.out 0).trans rfl; have hcz9_1 : w5.cell? ⟨gb203, 1, none⟩ = some (.int .i64 a2_1) := (blk_cell BK203.out 1).trans rfl; have hfz9_0 := blk_frozen BK203.out 0; have hfz9_1 := blk_frozen BK203.out 1) | (go_at_call 49; (with_reducible refine (impl_IsRatio.calls a2_0 a2_1 t205 _ A8.out).mono ?_); rintro e w10 ⟨rfl, hb⟩; have n0_ := kB BK203 hb; have n1_ := kH HB hb; replace BK203 := n0_; replace HB := n1_; clear n0_ n1_; (try clear hb)))
   go_meet
   case rel => exact ⟨_, (!t205), (by first | rfl | (simp; done) | (simp [*]; done)), H', ⟨by first | omega | exact Nat.le_refl _⟩, kA, kI⟩
  ·replace c7 := Bool.eq_false_iff.mpr c7
   subst c7
   have H1 : (impl_NearestYear.j0 k a0 a1 true a2_0 a2_1) = some (r1, r2) := by rw [if_neg (show ¬ (false = true) by decide)] at H; exact H
   clear H
   have H := H1
   clear H1
   have H' := Aside0.mk H
   clear H
   go_wp2_with (first | ((with_reducible refine gate_callee (f := 76) rfl ?_); refine kE (some 16) Try.func76 #[.int .i64 a0, .int .i64 a1] rfl ?_; (with_reducible refine (impl_areUnlike.calls a0 a1 false _ A6.out).mono ?_); rintro e w' ⟨rfl, ⟨nd, rfl⟩⟩; refine ⟨_, rfl, ?_⟩))
   go_meet
   case rel => exact ⟨_, (true), (by first | rfl | (simp; done) | (simp [*]; done)), H', ⟨by first | omega | exact Nat.le_refl _⟩, kA, kI⟩
 case rest =>
  clear HC4
  obtain ⟨kq, x22_3, rfl, HA, HJ3, BK203, HB⟩ := hcut
  cases kq with
  | zero => exact absurd HA.out (by simp [impl_NearestYear.j0])
  | succ kj3 =>
   have H := HA.out
   clear HA
   simp only [impl_NearestYear.j0] at H
   by_cases c11 : x22_3 = true
   ·subst c11
    have H1 : (some (0, false)) = some (r1, r2) := by rw [if_pos rfl] at H; exact H
    clear H
    have H := H1
    clear H1
    simp only [Option.some.injEq, Prod.mk.injEq] at H
    obtain ⟨rfl, rfl⟩ := H
    go_wp2
    go_ret2
    exact ⟨by first | rfl | (simp [errW_none, errW_some] <;> rfl) | (simp [*, errW_none, errW_some] <;> rfl), kO⟩
   ·replace c11 := Bool.eq_false_iff.mpr c11
    subst c11
    have H1 : (impl_NearestYear.l0 kj3 a0 a1 0 0 1 false (wrap64 (1 - (mn a0 a1))) a2_0 a2_1) = some (r1, r2) := by rw [if_neg (show ¬ (false = true) by decide)] at H; exact H
    clear H
    have H := H1
    clear H1
    obtain ⟨ji12, hji12⟩ : ∃ j_ : Int, (mn a0 a1) = j_ := ⟨_, rfl⟩
    replace H : (impl_NearestYear.l0 kj3 a0 a1 0 0 1 false (wrap64 (1 - (ji12))) a2_0 a2_1) = some (r1, r2) := by first | (rw [hji12] at H; exact H) | (simp only [hji12] at H ⊢; exact H)
    have hji12_ : (if a1 < a0 then a1 else a0) = ji12 := hji12
    have H' := Aside0.mk H
    clear H
    go_wp2
    go_loopg [8, 9, 10, 11, 12] kj3 (fun kq v8 v9 v10 v11 v12 w' => ∃ (x8_2 : Int) (x9_2 : Int) (x10_2 : Int) (x11_2 : Bool) (x12_2 : Int), v8 = .int .i64 x8_2 ∧ v9 = .int .i64 x9_2 ∧ v10 = .int .i64 x10_2 ∧ v11 = .bool x11_2 ∧ v12 = .int .i64 x12_2 ∧ Aside0 (impl_NearestYear.l0 kq a0 a1 x8_2 x9_2 x10_2 x11_2 x12_2 a2_0 a2_1 = some (r1, r2)) ∧ Aside0 (kq ≤ kj3) ∧ Aside0 (w'.heap[gb203]? = some (.cells #[.int .i64 a2_0, .int .i64 a2_1] 43 (0, 0))) ∧ Aside0 (Below w.heap.size w w'))
    case atStart => exact ⟨(0), (0), (1), (false), (wrap64 (1 - (ji12))), (by first | rfl | (simp; done) | (simp [*]; done)), (by first | rfl | (simp; done) | (simp [*]; done)), (by first | rfl | (simp; done) | (simp [*]; done)), (by first | rfl | (simp; done) | (simp [*]; done)), (by first | rfl | (simp; done) | (simp only [← hji12] <;> (first | rfl | simp)) | (simp [*]; done)), H', ⟨Nat.le_refl _⟩, kA, kI⟩
    case round =>
     clear H'
     try clear c11
     obtain ⟨x8_2, x9_2, x10_2, x11_2, x12_2, rfl, rfl, rfl, rfl, rfl, HA, HK2, BK203, HB⟩ := hrel
     cases gk with
     | zero => exact absurd HA.out (by simp [impl_NearestYear.l0])
     | succ k2 =>
      have H := HA.out
      clear HA
      simp only [impl_NearestYear.l0] at H
      by_cases c13 : x12_2 ≤ 120
      ·rw [if_pos c13] at H
       have c13b0 : decide (x12_2 ≤ 120) = true := decide_eq_true c13
       clear c13
       obtain ⟨ji14, hji14⟩ : ∃ j_ : Int, (mx (wrap64 ((wrap64 ((wrap64 (a0 + x12_2)) * a2_1)) - (wrap64 (a2_0 * (wrap64 (a1 + x12_2)))))) (wrap64 (-(wrap64 ((wrap64 ((wrap64 (a0 + x12_2)) * a2_1)) - (wrap64 (a2_0 * (wrap64 (a1 + x12_2))))))))) = j_ := ⟨_, rfl⟩
       replace H : (if x11_2 = true then (if (wrap64 ((ji14) * x10_2)) < (wrap64 (x9_2 * (wrap64 (a1 + x12_2)))) then (impl_NearestYear.l0 k2 a0 a1 x12_2 ji14 (wrap64 (a1 + x12_2)) true (wrap64 (x12_2 + 1)) a2_0 a2_1) else (impl_NearestYear.l0 k2 a0 a1 x8_2 x9_2 x10_2 x11_2 (wrap64 (x12_2 + 1)) a2_0 a2_1)) else (impl_NearestYear.l0 k2 a0 a1 x12_2 ji14 (wrap64 (a1 + x12_2)) true (wrap64 (x12_2 + 1)) a2_0 a2_1)) = some (r1, r2) := by first | (rw [hji14] at H; exact H) | (simp only [hji14] at H ⊢; exact H)
       have hji14_ : (if (wrap64 ((wrap64 ((wrap64 (a0 + x12_2)) * a2_1)) - (wrap64 (a2_0 * (wrap64 (a1 + x12_2)))))) < (wrap64 (-(wrap64 ((wrap64 ((wrap64 (a0 + x12_2)) * a2_1)) - (wrap64 (a2_0 * (wrap64 (a1 + x12_2)))))))) then (wrap64 (-(wrap64 ((wrap64 ((wrap64 (a0 + x12_2)) * a2_1)) - (wrap64 (a2_0 * (wrap64 (a1 + x12_2)))))))) else (wrap64 ((wrap64 ((wrap64 (a0 + x12_2)) * a2_1)) - (wrap64 (a2_0 * (wrap64 (a1 + x12_2))))))) = ji14 := hji14
       by_cases c15 : x11_2 = true
       ·subst c15
        have H1 : (if (wrap64 ((ji14) * x10_2)) < (wrap64 (x9_2 * (wrap64 (a1 + x12_2)))) then (impl_NearestYear.l0 k2 a0 a1 x12_2 ji14 (wrap64 (a1 + x12_2)) true (wrap64 (x12_2 + 1)) a2_0 a2_1) else (impl_NearestYear.l0 k2 a0 a1 x8_2 x9_2 x10_2 true (wrap64 (x12_2 + 1)) a2_0 a2_1)) = some (r1, r2) := by rw [if_pos rfl] at H; exact H
        clear H
        have H := H1
        clear H1
        by_cases c16 : (wrap64 ((ji14) * x10_2)) < (wrap64 (x9_2 * (wrap64 (a1 + x12_2))))
        ·rw [if_pos c16] at H
         have c16b0 : decide ((wrap64 ((ji14) * x10_2)) < (wrap64 (x9_2 * (wrap64 (a1 + x12_2))))) = true := decide_eq_true c16
         clear c16
         have H' := Aside0.mk H
         clear H
         have hcz17_0 : wr.cell? ⟨gb203, 0, none⟩ = some (.int .i64 a2_0) := (blk_cell BK203.out 0).trans rfl
         have hcz17_1 : wr.cell? ⟨gb203, 1, none⟩ = some (.int .i64 a2_1) := (blk_cell BK203.out 1).trans rfl
         have hfz17_0 := blk_frozen BK203.out 0
         have hfz17_1 := blk_frozen BK203.out 1
         go_wp2
         go_roundg k2
         case measure => have := HJ3.out; have := HK2.out; omega
         case rel => exact ⟨(x12_2), (ji14), (wrap64 (a1 + x12_2)), (true), (wrap64 (x12_2 + 1)), (by first | rfl | (simp; done) | (simp [*]; done)), (by first | rfl | (simp; done) | (simp only [← hji14] <;> (first | rfl | simp)) | (simp [*]; done)), (by first | rfl | (simp; done) | (simp [*]; done)), (by first | rfl | (simp; done) | (simp [*]; done)), (by first | rfl | (simp; done) | (simp [*]; done)), H', ⟨by have := HJ3.out; have := HK2.out; omega⟩, kA, kI⟩
        ·rw [if_neg c16] at H
         have c16b0 : decide ((wrap64 ((ji14) * x10_2)) < (wrap64 (x9_2 * (wrap64 (a1 + x12_2))))) = false := decide_eq_false c16
         clear c16
         have H' := Aside0.mk H
         clear H
         have hcz18_0 : wr.cell? ⟨gb203, 0, none⟩ = some (.int .i64 a2_0) := (blk_cell BK203.out 0).trans rfl
         have hcz18_1 : wr.cell? ⟨gb203, 1, none⟩ = some (.int .i64 a2_1) := (blk_cell BK203.out 1).trans rfl
         have hfz18_0 := blk_frozen BK203.out 0
         have hfz18_1 := blk_frozen BK203.out 1
         go_wp2
         go_roundg k2
         case measure => have := HJ3.out; have := HK2.out; omega
         case rel => exact ⟨(x8_2), (x9_2), (x10_2), (true), (wrap64 (x12_2 + 1)), (by first | rfl | (simp; done) | (simp [*]; done)), (by first | rfl | (simp; done) | (simp [*]; done)), (by first | rfl | (simp; done) | (simp [*]; done)), (by first | rfl | (simp; done) | (simp [*]; done)), (by first | rfl | (simp; done) | (simp [*]; done)), H', ⟨by have := HJ3.out; have := HK2.out; omega⟩, kA, kI⟩
       ·replace c15 := Bool.eq_false_iff.mpr c15
        subst c15
        have H1 : (impl_NearestYear.l0 k2 a0 a1 x12_2 ji14 (wrap64 (a1 + x12_2)) true (wrap64 (x12_2 + 1)) a2_0 a2_1) = some (r1, r2) := by rw [if_neg (show ¬ (false = true) by decide)] at H; exact H
        clear H
        have H := H1
        clear H1
        have H' := Aside0.mk H
        clear H
        have hcz19_0 : wr.cell? ⟨gb203, 0, none⟩ = some (.int .i64 a2_0) := (blk_cell BK203.out 0).trans rfl
        have hcz19_1 : wr.cell? ⟨gb203, 1, none⟩ = some (.int .i64 a2_1) := (blk_cell BK203.out 1).trans rfl
        have hfz19_0 := blk_frozen BK203.out 0
        have hfz19_1 := blk_frozen BK203.out 1
        go_wp2
        go_roundg k2
        case measure => have := HJ3.out; have := HK2.out; omega
        case rel => exact ⟨(x12_2), (ji14), (wrap64 (a1 + x12_2)), (true), (wrap64 (x12_2 + 1)), (by first | rfl | (simp; done) | (simp [*]; done)), (by first | rfl | (simp; done) | (simp only [← hji14] <;> (first | rfl | simp)) | (simp [*]; done)), (by first | rfl | (simp; done) | (simp [*]; done)), (by first | rfl | (simp; done) | (simp [*]; done)), (by first | rfl | (simp; done) | (simp [*]; done)), H', ⟨by have := HJ3.out; have := HK2.out; omega⟩, kA, kI⟩
      ·rw [if_neg c13] at H
       have c13b0 : decide (x12_2 ≤ 120) = false := decide_eq_false c13
       clear c13
       simp only [Option.some.injEq, Prod.mk.injEq] at H
       obtain ⟨rfl, rfl⟩ := H
       go_wp2
       go_ret2
       exact ⟨by first | rfl | (simp [errW_none, errW_some] <;> rfl) | (simp only [← hji12]; first | rfl | (simp [errW_none, errW_some] <;> rfl)) | (simp [*, errW_none, errW_some] <;> rfl), kO⟩

/-! ### spec_raTwo: function 77 -/
def spec_raTwo.f (a0 : Int) (a1 : Int) : Option (Bool) := (spec_raAge.f a0).bind fun t206 => (if t206 = true then ((spec_raAge.f a1).bind fun t207 => (if t207 = true then (some (a0 != a1)) else (some false))) else (some false))
set_option maxHeartbeats 8000000 in
set_option maxRecDepth 100000 in
theorem spec_raTwo.calls (a0 : Int) (a1 : Int) (r : Bool) (w : World) (h : spec_raTwo.f a0 a1 = some r) :
  Calls Try.prog 77 #[.int .i64 a0, .int .i64 a1] w fun e w' => e = .returned (.bool r) ∧ Drawn0 w w' := by
 have H : ((spec_raAge.f a0).bind fun t206 => (if t206 = true then ((spec_raAge.f a1).bind fun t207 => (if t207 = true then (some (a0 != a1)) else (some false))) else (some false))) = some r := h
 clear h
 replace H := Option.bind_eq_some_iff.mp H
 obtain ⟨t206, A30, H⟩ := H
 replace H : (if t206 = true then ((spec_raAge.f a1).bind fun t207 => (if t207 = true then (some (a0 != a1)) else (some false))) else (some false)) = some r := H
 have A3 := Aside0.mk A30
 clear A30
 by_cases c4 : t206 = true
 ·subst c4
  have H1 : ((spec_raAge.f a1).bind fun t207 => (if t207 = true then (some (a0 != a1)) else (some false))) = some r := by rw [if_pos rfl] at H; exact H
  clear H
  have H := H1
  clear H1
  replace H := Option.bind_eq_some_iff.mp H
  obtain ⟨t207, A50, H⟩ := H
  replace H : (if t207 = true then (some (a0 != a1)) else (some false)) = some r := H
  have A5 := Aside0.mk A50
  clear A50
  by_cases c6 : t207 = true
  ·subst c6
   have H1 : (some (a0 != a1)) = some r := by rw [if_pos rfl] at H; exact H
   clear H
   have H := H1
   clear H1
   obtain rfl := Option.some.inj H
   go_enter Try.func77, Try.ntmps77
   go_wp2_with (first | ((with_reducible refine gate_callee (f := 73) rfl ?_); refine kE (some 6) Try.func73 #[.int .i64 a0] rfl ?_; (with_reducible refine (spec_raAge.calls a0 true _ A3.out).mono ?_); rintro e w' ⟨rfl, ⟨nd, rfl⟩⟩; refine ⟨_, rfl, ?_⟩) | (go_at_call 73; (with_reducible refine (spec_raAge.calls a1 true _ A5.out).mono ?_); rintro e w' ⟨rfl, ⟨nd, rfl⟩⟩))
   go_ret
   exact ⟨by first | rfl | (simp; done) | (simp [*]; done), by repeat (first | exact Drawn0.refl _ | apply Drawn0.step)⟩
  ·replace c6 := Bool.eq_false_iff.mpr c6
   subst c6
   have H1 : (some false) = some r := by rw [if_neg (show ¬ (false = true) by decide)] at H; exact H
   clear H
   have H := H1
   clear H1
   obtain rfl := Option.some.inj H
   go_enter Try.func77, Try.ntmps77
   go_wp2_with (first | ((with_reducible refine gate_callee (f := 73) rfl ?_); refine kE (some 6) Try.func73 #[.int .i64 a0] rfl ?_; (with_reducible refine (spec_raAge.calls a0 true _ A3.out).mono ?_); rintro e w' ⟨rfl, ⟨nd, rfl⟩⟩; refine ⟨_, rfl, ?_⟩) | (go_at_call 73; (with_reducible refine (spec_raAge.calls a1 false _ A5.out).mono ?_); rintro e w' ⟨rfl, ⟨nd, rfl⟩⟩))
   go_ret
   exact ⟨by first | rfl | (simp; done) | (simp [*]; done), by repeat (first | exact Drawn0.refl _ | apply Drawn0.step)⟩
 ·replace c4 := Bool.eq_false_iff.mpr c4
  subst c4
  have H1 : (some false) = some r := by rw [if_neg (show ¬ (false = true) by decide)] at H; exact H
  clear H
  have H := H1
  clear H1
  obtain rfl := Option.some.inj H
  go_enter Try.func77, Try.ntmps77
  go_wp2_with (first | ((with_reducible refine gate_callee (f := 73) rfl ?_); refine kE (some 6) Try.func73 #[.int .i64 a0] rfl ?_; (with_reducible refine (spec_raAge.calls a0 false _ A3.out).mono ?_); rintro e w' ⟨rfl, ⟨nd, rfl⟩⟩; refine ⟨_, rfl, ?_⟩))
  go_ret
  exact ⟨by first | rfl | (simp; done) | (simp [*]; done), by repeat (first | exact Drawn0.refl _ | apply Drawn0.step)⟩

/-! ### spec_NearestYear: function 31 -/
mutual
def spec_NearestYear.j0 : Nat → Int → Int → Bool → Int → Int → Option (Int × Bool)
 | 0, _, _, _, _, _ => none
 | k + 1, x0, x1, x22, x209000, x209001 => if x22 = true then (some (0, false)) else ((spec_l1Least.f x0 x1).bind fun t211 => (spec_NearestYear.l0 k x0 x1 0 (-1) 1 (wrap64 (1 - t211)) x209000 x209001))
def spec_NearestYear.l0 : Nat → Int → Int → Int → Int → Int → Int → Int → Int → Option (Int × Bool)
 | 0, _, _, _, _, _, _, _, _ => none
 | k + 1, x0, x1, x8, x9, x10, x11, x209000, x209001 => if x11 ≤ 120 then ((spec_l1Abs.f (wrap64 ((wrap64 ((wrap64 (x0 + x11)) * x209001)) - (wrap64 (x209000 * (wrap64 (x1 + x11))))))).bind fun t212 => (if x9 < 0 then (spec_NearestYear.l0 k x0 x1 x11 t212 (wrap64 ((wrap64 (x1 + x11)) * x209001)) (wrap64 (x11 + 1)) x209000 x209001) else (if (wrap64 (t212 * x10)) < (wrap64 (x9 * (wrap64 ((wrap64 (x1 + x11)) * x209001)))) then (spec_NearestYear.l0 k x0 x1 x11 t212 (wrap64 ((wrap64 (x1 + x11)) * x209001)) (wrap64 (x11 + 1)) x209000 x209001) else (spec_NearestYear.l0 k x0 x1 x8 x9 x10 (wrap64 (x11 + 1)) x209000 x209001)))) else (some (x8, true))
end
def spec_NearestYear.f (k : Nat) (a0 : Int) (a1 : Int) (a2_0 : Int) (a2_1 : Int) : Option (Int × Bool) := (spec_raTwo.f a0 a1).bind fun t209 => (if t209 = true then ((spec_raGood.f a2_0 a2_1).bind fun t210 => (spec_NearestYear.j0 k a0 a1 (!t210) a2_0 a2_1)) else (spec_NearestYear.j0 k a0 a1 true a2_0 a2_1))
set_option maxHeartbeats 8000000 in
set_option maxRecDepth 100000 in
theorem spec_NearestYear.calls (k : Nat) (a0 : Int) (a1 : Int) (a2_0 : Int) (a2_1 : Int) (r1 : Int) (r2 : Bool) (w : World) (h : spec_NearestYear.f k a0 a1 a2_0 a2_1 = some (r1, r2)) :
  Calls Try.prog 31 #[.int .i64 a0, .int .i64 a1, .agg #[.int .i64 a2_0, .int .i64 a2_1]] w fun e w' => e = .returned (.tuple #[.int .i64 r1, .bool r2]) ∧ Below w.heap.size w w' := by
 have hu43 := Try.underlying43
 have HB := Aside0.mk (Below.refl w.heap.size w)
 have H : ((spec_raTwo.f a0 a1).bind fun t209 => (if t209 = true then ((spec_raGood.f a2_0 a2_1).bind fun t210 => (spec_NearestYear.j0 k a0 a1 (!t210) a2_0 a2_1)) else (spec_NearestYear.j0 k a0 a1 true a2_0 a2_1))) = some (r1, r2) := h
 clear h
 have HC4 := Aside0.mk H
 clear H
 go_enter Try.func31, Try.ntmps31
 go_upto_region 1 with (first | ((with_reducible refine gate_dst (N := 5) rfl ?_); refine box_event ?hg (N := 5) ?hd (cs := #[.int .i64 a2_0, .int .i64 a2_1]) (t := 43) ?hr ?_; (case hd => rfl); (case hg => rfl); (case hr => first | (go_simp; done) | (go_simp; rfl)); intro gb208 hg w5 hbox hb; have n0_ := kH HB hb; have n1_ := Aside0.mk (hbox); have n2_ := kG HB hg; have n3_ := kG HB hg; replace HB := n0_; have BK208 := n1_; have GW208 := n2_; have GE208 := n3_; clear n0_ n1_ n2_ n3_; clear hb hbox hg))
 repeat (go_quiet (first | ((with_reducible refine gate_dst (N := 5) rfl ?_); refine box_event ?hg (N := 5) ?hd (cs := #[.int .i64 a2_0, .int .i64 a2_1]) (t := 43) ?hr ?_; (case hd => rfl); (case hg => rfl); (case hr => first | (go_simp; done) | (go_simp; rfl)); intro gb208 hg w5 hbox hb; have n0_ := kH HB hb; have n1_ := Aside0.mk (hbox); have n2_ := kG HB hg; have n3_ := kG HB hg; replace HB := n0_; have BK208 := n1_; have GW208 := n2_; have GE208 := n3_; clear n0_ n1_ n2_ n3_; clear hb hbox hg)); go_upto_region 1 with (first | ((with_reducible refine gate_dst (N := 5) rfl ?_); refine box_event ?hg (N := 5) ?hd (cs := #[.int .i64 a2_0, .int .i64 a2_1]) (t := 43) ?hr ?_; (case hd => rfl); (case hg => rfl); (case hr => first | (go_simp; done) | (go_simp; rfl)); intro gb208 hg w5 hbox hb; have n0_ := kH HB hb; have n1_ := Aside0.mk (hbox); have n2_ := kG HB hg; have n3_ := kG HB hg; replace HB := n0_; have BK208 := n1_; have GW208 := n2_; have GE208 := n3_; clear n0_ n1_ n2_ n3_; clear hb hbox hg)))
 (try simp only [Act.put, List.setIfInBounds_toArray, List.set_cons_zero, List.set_cons_succ])
 go_cut [22] from 1 to 0 (fun v22 wc => ∃ (kq : Nat) (x22_3 : Bool), v22 = .bool x22_3 ∧ Aside0 (spec_NearestYear.j0 kq a0 a1 x22_3 a2_0 a2_1 = some (r1, r2)) ∧ Aside0 (kq ≤ k) ∧ Aside0 (wc.heap[gb208]? = some (.cells #[.int .i64 a2_0, .int .i64 a2_1] 43 (0, 0))) ∧ Aside0 (Below w.heap.size w wc))
 case first =>
  have H := HC4.out
  clear HC4
  replace H := Option.bind_eq_some_iff.mp H
  obtain ⟨t209, A60, H⟩ := H
  replace H : (if t209 = true then ((spec_raGood.f a2_0 a2_1).bind fun t210 => (spec_NearestYear.j0 k a0 a1 (!t210) a2_0 a2_1)) else (spec_NearestYear.j0 k a0 a1 true a2_0 a2_1)) = some (r1, r2) := H
  have A6 := Aside0.mk A60
  clear A60
  by_cases c7 : t209 = true
  ·subst c7
   have H1 : ((spec_raGood.f a2_0 a2_1).bind fun t210 => (spec_NearestYear.j0 k a0 a1 (!t210) a2_0 a2_1)) = some (r1, r2) := by rw [if_pos rfl] at H; exact H
   clear H
   have H := H1
   clear H1
   replace H := Option.bind_eq_some_iff.mp H
   obtain ⟨t210, A80, H⟩ := H
   replace H : (spec_NearestYear.j0 k a0 a1 (!t210) a2_0 a2_1) = some (r1, r2) := H
   have A8 := Aside0.mk A80
   clear A80
   have H' := Aside0.mk H
   clear H
   go_wp2_with (first | (go_at_call 77; (with_reducible refine (spec_raTwo.calls a0 a1 true _ A6.out).mono ?_); rintro e w' ⟨rfl, ⟨nd, rfl⟩⟩; (try first | exact ⟨rfl, _, World.drewN_drewN _ _ _⟩ | exact ⟨rfl, _, Eq.trans (World.drewN_drewN _ _ _) (congrArg (World.drewN _) (Nat.add_assoc _ _ _))⟩); have hcz9_0 : w5.cell? ⟨gb208, 0, none⟩ = some (.int .i64 a2_0) := (blk_cell BK208.out 0).trans rfl; have hcz9_1 : w5.cell? ⟨gb208, 1, none⟩ = some (.int .i64 a2_1) := (blk_cell BK208.out 1).trans rfl; have hfz9_0 := blk_frozen BK208.out 0; have hfz9_1 := blk_frozen BK208.out 1) | (go_at_call 74; (with_reducible refine (spec_raGood.calls a2_0 a2_1 t210 _ A8.out).mono ?_); rintro e w10 ⟨rfl, hb⟩; have n0_ := kB BK208 hb; have n1_ := kH HB hb; replace BK208 := n0_; replace HB := n1_; clear n0_ n1_; (try clear hb)))
   repeat (go_quiet (first | (go_at_call 77; (with_reducible refine (spec_raTwo.calls a0 a1 true _ A6.out).mono ?_); rintro e w' ⟨rfl, ⟨nd, rfl⟩⟩; (try first | exact ⟨rfl, _, World.drewN_drewN _ _ _⟩ | exact ⟨rfl, _, Eq.trans (World.drewN_drewN _ _ _) (congrArg (World.drewN _) (Nat.add_assoc _ _ _))⟩); have hcz9_0 : w5.cell? ⟨gb208, 0, none⟩ = some (.int .i64 a2_0) := (blk_cell BK208.out 0).trans rfl; have hcz9_1 : w5.cell? ⟨gb208, 1, none⟩ = some (.int .i64 a2_1) := (blk_cell BK208.out 1).trans rfl; have hfz9_0 := blk_frozen BK208.out 0; have hfz9_1 := blk_frozen BK208.out 1) | (go_at_call 74; (with_reducible refine (spec_raGood.calls a2_0 a2_1 t210 _ A8.out).mono ?_); rintro e w10 ⟨rfl, hb⟩; have n0_ := kB BK208 hb; have n1_ := kH HB hb; replace BK208 := n0_; replace HB := n1_; clear n0_ n1_; (try clear hb))); try go_wp2_with (first | (go_at_call 77; (with_reducible refine (spec_raTwo.calls a0 a1 true _ A6.out).mono ?_); rintro e w' ⟨rfl, ⟨nd, rfl⟩⟩; (try first | exact ⟨rfl, _, World.drewN_drewN _ _ _⟩ | exact ⟨rfl, _, Eq.trans (World.drewN_drewN _ _ _) (congrArg (World.drewN _) (Nat.add_assoc _ _ _))⟩); have hcz9_0 : w5.cell? ⟨gb208, 0, none⟩ = some (.int .i64 a2_0) := (blk_cell BK208.out 0).trans rfl; have hcz9_1 : w5.cell? ⟨gb208, 1, none⟩ = some (.int .i64 a2_1) := (blk_cell BK208.out 1).trans rfl; have hfz9_0 := blk_frozen BK208.out 0; have hfz9_1 := blk_frozen BK208.out 1) | (go_at_call 74; (with_reducible refine (spec_raGood.calls a2_0 a2_1 t210 _ A8.out).mono ?_); rintro e w10 ⟨rfl, hb⟩; have n0_ := kB BK208 hb; have n1_ := kH HB hb; replace BK208 := n0_; replace HB := n1_; clear n0_ n1_; (try clear hb))))
   go_meet
   case rel => exact ⟨_, (!t210), (by first | rfl | (simp; done) | (simp [*]; done)), H', ⟨by first | omega | exact Nat.le_refl _⟩, kA, kI⟩
  ·replace c7 := Bool.eq_false_iff.mpr c7
   subst c7
   have H1 : (spec_NearestYear.j0 k a0 a1 true a2_0 a2_1) = some (r1, r2) := by rw [if_neg (show ¬ (false = true) by decide)] at H; exact H
   clear H
   have H := H1
   clear H1
   have H' := Aside0.mk H
   clear H
   go_wp2_with (first | (go_at_call 77; (with_reducible refine (spec_raTwo.calls a0 a1 false _ A6.out).mono ?_); rintro e w' ⟨rfl, ⟨nd, rfl⟩⟩; (try first | exact ⟨rfl, _, World.drewN_drewN _ _ _⟩ | exact ⟨rfl, _, Eq.trans (World.drewN_drewN _ _ _) (congrArg (World.drewN _) (Nat.add_assoc _ _ _))⟩)))
   repeat (go_quiet (first | (go_at_call 77; (with_reducible refine (spec_raTwo.calls a0 a1 false _ A6.out).mono ?_); rintro e w' ⟨rfl, ⟨nd, rfl⟩⟩; (try first | exact ⟨rfl, _, World.drewN_drewN _ _ _⟩ | exact ⟨rfl, _, Eq.trans (World.drewN_drewN _ _ _) (congrArg (World.drewN _) (Nat.add_assoc _ _ _))⟩))); try go_wp2_with (first | (go_at_call 77; (with_reducible refine (spec_raTwo.calls a0 a1 false _ A6.out).mono ?_); rintro e w' ⟨rfl, ⟨nd, rfl⟩⟩; (try first | exact ⟨rfl, _, World.drewN_drewN _ _ _⟩ | exact ⟨rfl, _, Eq.trans (World.drewN_drewN _ _ _) (congrArg (World.drewN _) (Nat.add_assoc _ _ _))⟩))))
   go_meet
   case rel => exact ⟨_, (true), (by first | rfl | (simp; done) | (simp [*]; done)), H', ⟨by first | omega | exact Nat.le_refl _⟩, kA, kI⟩
 case rest =>
  clear HC4
  obtain ⟨kq, x22_3, rfl, HA, HJ3, BK208, HB⟩ := hcut
  cases kq with
  | zero => exact absurd HA.out (by simp [spec_NearestYear.j0])
  | succ kj3 =>
   have H := HA.out
   clear HA
   simp only [spec_NearestYear.j0] at H
   by_cases c11 : x22_3 = true
   ·subst c11
    have H1 : (some (0, false)) = some (r1, r2) := by rw [if_pos rfl] at H; exact H
    clear H
    have H := H1
    clear H1
    simp only [Option.some.injEq, Prod.mk.injEq] at H
    obtain ⟨rfl, rfl⟩ := H
    go_wp2
    repeat (go_quiet (fail); try go_wp2)
    go_ret2
    exact ⟨by first | rfl | (simp [errW_none, errW_some] <;> rfl) | (simp [*, errW_none, errW_some] <;> rfl), kO⟩
   ·replace c11 := Bool.eq_false_iff.mpr c11
    subst c11
    have H1 : ((spec_l1Least.f a0 a1).bind fun t211 => (spec_NearestYear.l0 kj3 a0 a1 0 (-1) 1 (wrap64 (1 - t211)) a2_0 a2_1)) = some (r1, r2) := by rw [if_neg (show ¬ (false = true) by decide)] at H; exact H
    clear H
    have H := H1
    clear H1
    replace H := Option.bind_eq_some_iff.mp H
    obtain ⟨t211, A120, H⟩ := H
    replace H : (spec_NearestYear.l0 kj3 a0 a1 0 (-1) 1 (wrap64 (1 - t211)) a2_0 a2_1) = some (r1, r2) := H
    have A12 := Aside0.mk A120
    clear A120
    have H' := Aside0.mk H
    clear H
    go_wp2_with (first | (go_at_call 75; (with_reducible refine (spec_l1Least.calls a0 a1 t211 _ A12.out).mono ?_); rintro e w' ⟨rfl, ⟨nd, rfl⟩⟩; (try first | exact ⟨rfl, _, World.drewN_drewN _ _ _⟩ | exact ⟨rfl, _, Eq.trans (World.drewN_drewN _ _ _) (congrArg (World.drewN _) (Nat.add_assoc _ _ _))⟩)))
    repeat (go_quiet (first | (go_at_call 75; (with_reducible refine (spec_l1Least.calls a0 a1 t211 _ A12.out).mono ?_); rintro e w' ⟨rfl, ⟨nd, rfl⟩⟩; (try first | exact ⟨rfl, _, World.drewN_drewN _ _ _⟩ | exact ⟨rfl, _, Eq.trans (World.drewN_drewN _ _ _) (congrArg (World.drewN _) (Nat.add_assoc _ _ _))⟩))); try go_wp2_with (first | (go_at_call 75; (with_reducible refine (spec_l1Least.calls a0 a1 t211 _ A12.out).mono ?_); rintro e w' ⟨rfl, ⟨nd, rfl⟩⟩; (try first | exact ⟨rfl, _, World.drewN_drewN _ _ _⟩ | exact ⟨rfl, _, Eq.trans (World.drewN_drewN _ _ _) (congrArg (World.drewN _) (Nat.add_assoc _ _ _))⟩))))
    go_loopg [8, 9, 10, 11] kj3 (fun kq v8 v9 v10 v11 w' => ∃ (x8_2 : Int) (x9_2 : Int) (x10_2 : Int) (x11_2 : Int), v8 = .int .i64 x8_2 ∧ v9 = .int .i64 x9_2 ∧ v10 = .int .i64 x10_2 ∧ v11 = .int .i64 x11_2 ∧ Aside0 (spec_NearestYear.l0 kq a0 a1 x8_2 x9_2 x10_2 x11_2 a2_0 a2_1 = some (r1, r2)) ∧ Aside0 (kq ≤ kj3) ∧ Aside0 (w'.heap[gb208]? = some (.cells #[.int .i64 a2_0, .int .i64 a2_1] 43 (0, 0))) ∧ Aside0 (Below w.heap.size w w'))
    case atStart => exact ⟨(0), ((-1)), (1), (wrap64 (1 - t211)), (by first | rfl | (simp; done) | (simp [*]; done)), (by first | rfl | (simp; done) | (simp [*]; done)), (by first | rfl | (simp; done) | (simp [*]; done)), (by first | rfl | (simp; done) | (simp [*]; done)), H', ⟨Nat.le_refl _⟩, kA, kI⟩
    case round =>
     clear H'
     try clear c11
     obtain ⟨x8_2, x9_2, x10_2, x11_2, rfl, rfl, rfl, rfl, HA, HK2, BK208, HB⟩ := hrel
     cases gk with
     | zero => exact absurd HA.out (by simp [spec_NearestYear.l0])
     | succ k2 =>
      have H := HA.out
      clear HA
      simp only [spec_NearestYear.l0] at H
      by_cases c13 : x11_2 ≤ 120
      ·rw [if_pos c13] at H
       have c13b0 : decide (x11_2 ≤ 120) = true := decide_eq_true c13
       clear c13
       replace H := Option.bind_eq_some_iff.mp H
       obtain ⟨t212, A140, H⟩ := H
       replace H : (if x9_2 < 0 then (spec_NearestYear.l0 k2 a0 a1 x11_2 t212 (wrap64 ((wrap64 (a1 + x11_2)) * a2_1)) (wrap64 (x11_2 + 1)) a2_0 a2_1) else (if (wrap64 (t212 * x10_2)) < (wrap64 (x9_2 * (wrap64 ((wrap64 (a1 + x11_2)) * a2_1)))) then (spec_NearestYear.l0 k2 a0 a1 x11_2 t212 (wrap64 ((wrap64 (a1 + x11_2)) * a2_1)) (wrap64 (x11_2 + 1)) a2_0 a2_1) else (spec_NearestYear.l0 k2 a0 a1 x8_2 x9_2 x10_2 (wrap64 (x11_2 + 1)) a2_0 a2_1))) = some (r1, r2) := H
       have A14 := Aside0.mk A140
       clear A140
       by_cases c15 : x9_2 < 0
       ·rw [if_pos c15] at H
        have c15b0 : decide (x9_2 < 0) = true := decide_eq_true c15
        clear c15
        have H' := Aside0.mk H
        clear H
        have hcz16_0 : wr.cell? ⟨gb208, 0, none⟩ = some (.int .i64 a2_0) := (blk_cell BK208.out 0).trans rfl
        have hcz16_1 : wr.cell? ⟨gb208, 1, none⟩ = some (.int .i64 a2_1) := (blk_cell BK208.out 1).trans rfl
        have hfz16_0 := blk_frozen BK208.out 0
        have hfz16_1 := blk_frozen BK208.out 1
        go_wp2_with (first | (go_at_call 78; (with_reducible refine (spec_l1Abs.calls (wrap64 ((wrap64 ((wrap64 (a0 + x11_2)) * a2_1)) - (wrap64 (a2_0 * (wrap64 (a1 + x11_2)))))) t212 _ A14.out).mono ?_); rintro e w' ⟨rfl, ⟨nd, rfl⟩⟩; (try first | exact ⟨rfl, _, World.drewN_drewN _ _ _⟩ | exact ⟨rfl, _, Eq.trans (World.drewN_drewN _ _ _) (congrArg (World.drewN _) (Nat.add_assoc _ _ _))⟩)))
        repeat (go_quiet (first | (go_at_call 78; (with_reducible refine (spec_l1Abs.calls (wrap64 ((wrap64 ((wrap64 (a0 + x11_2)) * a2_1)) - (wrap64 (a2_0 * (wrap64 (a1 + x11_2)))))) t212 _ A14.out).mono ?_); rintro e w' ⟨rfl, ⟨nd, rfl⟩⟩; (try first | exact ⟨rfl, _, World.drewN_drewN _ _ _⟩ | exact ⟨rfl, _, Eq.trans (World.drewN_drewN _ _ _) (congrArg (World.drewN _) (Nat.add_assoc _ _ _))⟩))); try go_wp2_with (first | (go_at_call 78; (with_reducible refine (spec_l1Abs.calls (wrap64 ((wrap64 ((wrap64 (a0 + x11_2)) * a2_1)) - (wrap64 (a2_0 * (wrap64 (a1 + x11_2)))))) t212 _ A14.out).mono ?_); rintro e w' ⟨rfl, ⟨nd, rfl⟩⟩; (try first | exact ⟨rfl, _, World.drewN_drewN _ _ _⟩ | exact ⟨rfl, _, Eq.trans (World.drewN_drewN _ _ _) (congrArg (World.drewN _) (Nat.add_assoc _ _ _))⟩))))
        go_roundg k2
        case measure => have := HJ3.out; have := HK2.out; omega
        case rel => exact ⟨(x11_2), (t212), (wrap64 ((wrap64 (a1 + x11_2)) * a2_1)), (wrap64 (x11_2 + 1)), (by first | rfl | (simp; done) | (simp [*]; done)), (by first | rfl | (simp; done) | (simp [*]; done)), (by first | rfl | (simp; done) | (simp [*]; done)), (by first | rfl | (simp; done) | (simp [*]; done)), H', ⟨by have := HJ3.out; have := HK2.out; omega⟩, kA, kI⟩
       ·rw [if_neg c15] at H
        have c15b0 : decide (x9_2 < 0) = false := decide_eq_false c15
        clear c15
        by_cases c17 : (wrap64 (t212 * x10_2)) < (wrap64 (x9_2 * (wrap64 ((wrap64 (a1 + x11_2)) * a2_1))))
        ·rw [if_pos c17] at H
         have c17b0 : decide ((wrap64 (t212 * x10_2)) < (wrap64 (x9_2 * (wrap64 ((wrap64 (a1 + x11_2)) * a2_1))))) = true := decide_eq_true c17
         clear c17
         have H' := Aside0.mk H
         clear H
         have hcz18_0 : wr.cell? ⟨gb208, 0, none⟩ = some (.int .i64 a2_0) := (blk_cell BK208.out 0).trans rfl
         have hcz18_1 : wr.cell? ⟨gb208, 1, none⟩ = some (.int .i64 a2_1) := (blk_cell BK208.out 1).trans rfl
         have hfz18_0 := blk_frozen BK208.out 0
         have hfz18_1 := blk_frozen BK208.out 1
         go_wp2_with (first | (go_at_call 78; (with_reducible refine (spec_l1Abs.calls (wrap64 ((wrap64 ((wrap64 (a0 + x11_2)) * a2_1)) - (wrap64 (a2_0 * (wrap64 (a1 + x11_2)))))) t212 _ A14.out).mono ?_); rintro e w' ⟨rfl, ⟨nd, rfl⟩⟩; (try first | exact ⟨rfl, _, World.drewN_drewN _ _ _⟩ | exact ⟨rfl, _, Eq.trans (World.drewN_drewN _ _ _) (congrArg (World.drewN _) (Nat.add_assoc _ _ _))⟩)))
         repeat (go_quiet (first | (go_at_call 78; (with_reducible refine (spec_l1Abs.calls (wrap64 ((wrap64 ((wrap64 (a0 + x11_2)) * a2_1)) - (wrap64 (a2_0 * (wrap64 (a1 + x11_2)))))) t212 _ A14.out).mono ?_); rintro e w' ⟨rfl, ⟨nd, rfl⟩⟩; (try first | exact ⟨rfl, _, World.drewN_drewN _ _ _⟩ | exact ⟨rfl, _, Eq.trans (World.drewN_drewN _ _ _) (congrArg (World.drewN _) (Nat.add_assoc _ _ _))⟩))); try go_wp2_with (first | (go_at_call 78; (with_reducible refine (spec_l1Abs.calls (wrap64 ((wrap64 ((wrap64 (a0 + x11_2)) * a2_1)) - (wrap64 (a2_0 * (wrap64 (a1 + x11_2)))))) t212 _ A14.out).mono ?_); rintro e w' ⟨rfl, ⟨nd, rfl⟩⟩; (try first | exact ⟨rfl, _, World.drewN_drewN _ _ _⟩ | exact ⟨rfl, _, Eq.trans (World.drewN_drewN _ _ _) (congrArg (World.drewN _) (Nat.add_assoc _ _ _))⟩))))
         go_roundg k2
         case measure => have := HJ3.out; have := HK2.out; omega
         case rel => exact ⟨(x11_2), (t212), (wrap64 ((wrap64 (a1 + x11_2)) * a2_1)), (wrap64 (x11_2 + 1)), (by first | rfl | (simp; done) | (simp [*]; done)), (by first | rfl | (simp; done) | (simp [*]; done)), (by first | rfl | (simp; done) | (simp [*]; done)), (by first | rfl | (simp; done) | (simp [*]; done)), H', ⟨by have := HJ3.out; have := HK2.out; omega⟩, kA, kI⟩
        ·rw [if_neg c17] at H
         have c17b0 : decide ((wrap64 (t212 * x10_2)) < (wrap64 (x9_2 * (wrap64 ((wrap64 (a1 + x11_2)) * a2_1))))) = false := decide_eq_false c17
         clear c17
         have H' := Aside0.mk H
         clear H
         have hcz19_0 : wr.cell? ⟨gb208, 0, none⟩ = some (.int .i64 a2_0) := (blk_cell BK208.out 0).trans rfl
         have hcz19_1 : wr.cell? ⟨gb208, 1, none⟩ = some (.int .i64 a2_1) := (blk_cell BK208.out 1).trans rfl
         have hfz19_0 := blk_frozen BK208.out 0
         have hfz19_1 := blk_frozen BK208.out 1
         go_wp2_with (first | (go_at_call 78; (with_reducible refine (spec_l1Abs.calls (wrap64 ((wrap64 ((wrap64 (a0 + x11_2)) * a2_1)) - (wrap64 (a2_0 * (wrap64 (a1 + x11_2)))))) t212 _ A14.out).mono ?_); rintro e w' ⟨rfl, ⟨nd, rfl⟩⟩; (try first | exact ⟨rfl, _, World.drewN_drewN _ _ _⟩ | exact ⟨rfl, _, Eq.trans (World.drewN_drewN _ _ _) (congrArg (World.drewN _) (Nat.add_assoc _ _ _))⟩)))
         repeat (go_quiet (first | (go_at_call 78; (with_reducible refine (spec_l1Abs.calls (wrap64 ((wrap64 ((wrap64 (a0 + x11_2)) * a2_1)) - (wrap64 (a2_0 * (wrap64 (a1 + x11_2)))))) t212 _ A14.out).mono ?_); rintro e w' ⟨rfl, ⟨nd, rfl⟩⟩; (try first | exact ⟨rfl, _, World.drewN_drewN _ _ _⟩ | exact ⟨rfl, _, Eq.trans (World.drewN_drewN _ _ _) (congrArg (World.drewN _) (Nat.add_assoc _ _ _))⟩))); try go_wp2_with (first | (go_at_call 78; (with_reducible refine (spec_l1Abs.calls (wrap64 ((wrap64 ((wrap64 (a0 + x11_2)) * a2_1)) - (wrap64 (a2_0 * (wrap64 (a1 + x11_2)))))) t212 _ A14.out).mono ?_); rintro e w' ⟨rfl, ⟨nd, rfl⟩⟩; (try first | exact ⟨rfl, _, World.drewN_drewN _ _ _⟩ | exact ⟨rfl, _, Eq.trans (World.drewN_drewN _ _ _) (congrArg (World.drewN _) (Nat.add_assoc _ _ _))⟩))))
         go_roundg k2
         case measure => have := HJ3.out; have := HK2.out; omega
         case rel => exact ⟨(x8_2), (x9_2), (x10_2), (wrap64 (x11_2 + 1)), (by first | rfl | (simp; done) | (simp [*]; done)), (by first | rfl | (simp; done) | (simp [*]; done)), (by first | rfl | (simp; done) | (simp [*]; done)), (by first | rfl | (simp; done) | (simp [*]; done)), H', ⟨by have := HJ3.out; have := HK2.out; omega⟩, kA, kI⟩
      ·rw [if_neg c13] at H
       have c13b0 : decide (x11_2 ≤ 120) = false := decide_eq_false c13
       clear c13
       simp only [Option.some.injEq, Prod.mk.injEq] at H
       obtain ⟨rfl, rfl⟩ := H
       go_wp2
       repeat (go_quiet (fail); try go_wp2)
       go_ret2
       exact ⟨by first | rfl | (simp [errW_none, errW_some] <;> rfl) | (simp [*, errW_none, errW_some] <;> rfl), kO⟩

/-! ### spec_DrawAgesFromSum: function 32 -/
def spec_DrawAgesFromSum.f (l0 : List Int) : Option (Int × Int × Int) := (spec_l1Cur_among.f l0 0 0 (([1, 7, 20, 60, 100, 1000, 1001, 0] : List Int))).bind fun bt218 => ((spec_l1Cur_ratio.f l0 bt218.2.1 bt218.2.2).bind fun bt221 => (some (bt218.1, bt221.1, bt221.2.1)))
set_option maxHeartbeats 8000000 in
set_option maxRecDepth 100000 in
theorem spec_DrawAgesFromSum.calls (A0 : Option Addr) (c0 : Nat) (l0 : List Int) (r1 : Int) (r2 : Int) (r3 : Int) (w : World) (hr0 : Kd.C (Kd.int .u8) w A0 l0.length l0) (hc0 : l0.length ≤ c0) (h : spec_DrawAgesFromSum.f l0 = some (r1, r2, r3)) :
  Calls Try.prog 32 #[.slice A0 l0.length c0] w fun e w' => e = .returned (.tuple #[.int .i64 r1, .agg #[.int .i64 r2, .int .i64 r3]]) ∧ Below w.heap.size w w' := by
 have hu43 := Try.underlying43
 have hu79 := Try.underlying79
 have HR0 := Aside0.mk hr0
 have HC0 := Aside0.mk hc0
 clear hr0 hc0
 have HB := Aside0.mk (Below.refl w.heap.size w)
 have H : ((spec_l1Cur_among.f l0 0 0 (([1, 7, 20, 60, 100, 1000, 1001, 0] : List Int))).bind fun bt218 => ((spec_l1Cur_ratio.f l0 bt218.2.1 bt218.2.2).bind fun bt221 => (some (bt218.1, bt221.1, bt221.2.1)))) = some (r1, r2, r3) := h
 clear h
 obtain ⟨y215, hy215⟩ : ∃ y_ : List Int, y_ = (([1, 7, 20, 60, 100, 1000, 1001, 0] : List Int)) := ⟨_, rfl⟩
 replace H : ((spec_l1Cur_among.f l0 0 0 y215).bind fun bt218 => ((spec_l1Cur_ratio.f l0 bt218.2.1 bt218.2.2).bind fun bt221 => (some (bt218.1, bt221.1, bt221.2.1)))) = some (r1, r2, r3) := by first | (rw [hy215]; with_reducible exact H) | (have H2_ := (Option.bind_some _ _).symm.trans H; rw [hy215]; with_reducible exact H2_) | (have H2_ := (Option.bind_some _ _).symm.trans H; with_reducible exact H2_) | with_reducible exact H | (rw [hy215]; exact H) | exact H
 have Ny215 := Aside0.mk hy215
 clear hy215
 replace H := Option.bind_eq_some_iff.mp H
 obtain ⟨⟨t218, t219, t220⟩, A20, H⟩ := H
 replace H : ((spec_l1Cur_ratio.f l0 t219 t220).bind fun bt221 => (some (t218, bt221.1, bt221.2.1))) = some (r1, r2, r3) := H
 have A2 := Aside0.mk A20
 clear A20
 replace H := Option.bind_eq_some_iff.mp H
 obtain ⟨⟨t221, t222, t223, t224⟩, A30, H⟩ := H
 replace H : (some (t218, t221, t222)) = some (r1, r2, r3) := H
 have A3 := Aside0.mk A30
 clear A30
 simp only [Option.some.injEq, Prod.mk.injEq] at H
 obtain ⟨rfl, rfl, rfl⟩ := H
 go_enter Try.func32, Try.ntmps32
 go_wp2_with (first | ((with_reducible refine gate_dst (N := 3) rfl ?_); refine box_event ?hg (N := 3) ?hd (cs := #[.int .i64 0, .int .i64 0]) (t := 43) ?hr ?_; (case hd => rfl); (case hg => rfl); (case hr => first | (go_simp; done) | (go_simp; rfl)); intro gb213 hg w4 hbox hb; have n0_ := kH HB hb; have n1_ := Aside0.mk (hbox); have n2_ := kG HB hg; have n3_ := kG HB hg; replace HB := n0_; have BK213 := n1_; have GW213 := n2_; have GE213 := n3_; clear n0_ n1_ n2_ n3_; clear hb hbox hg) | ((with_reducible refine gate_dst (N := 8) rfl ?_); refine box_event ?hg (N := 8) ?hd (cs := #[.slice A0 l0.length c0, .int .i64 0, .int .u64 0]) (t := 79) ?hr ?_; (case hd => rfl); (case hg => rfl); (case hr => first | (go_simp; done) | (go_simp; rfl)); intro gb214 hg w5 hbox hb; have n0_ := kB BK213 hb; have n1_ := kH HB hb; have n2_ := kG HB hg; have n3_ := kG HB hg; have n4_ := kL BK213 hg; have n5_ := kR BK213 hg; have n6_ := Aside0.mk ((⟨_, _, hbox, (by rw [hg]; exact (below_size kO) : w.heap.size ≤ gb214), HR0.out⟩ : IsS79 w w5 gb214 l0 0 0)); replace BK213 := n0_; replace HB := n1_; have GW214 := n2_; have GE214 := n3_; have NB213_214 := n4_; have NB214_213 := n5_; have HI214 := n6_; clear n0_ n1_ n2_ n3_ n4_ n5_ n6_; clear hb hbox hg) | ((with_reducible refine gate_dst (N := 10) rfl ?_); refine Kd.R_lit (Kd.int .i64) _ 3 ?hg (N := 10) ?hd (xs := ([1, 7, 20, 60, 100, 1000, 1001, 0] : List Int)) (inner := [.int .i64 1, .int .i64 7, .int .i64 20, .int .i64 60, .int .i64 100, .int .i64 1000, .int .i64 1001, .int .i64 0]) (ok := fun _ => True) (okp := fun _ => True) ?hr ?hp (fun _ hk => hk) trivial (Below.refl _ _) (Nat.le_refl _) (by simp) ?_; (case hd => rfl); (case hg => rfl); (case hr => first | (go_simp; done) | (go_simp; rfl)); (case hp => exact (Reps.one (show Kd.M (Kd.int .i64) _ _ _ 1 [.int .i64 1] from rfl) (Reps.one (show Kd.M (Kd.int .i64) _ _ _ 7 [.int .i64 7] from rfl) (Reps.one (show Kd.M (Kd.int .i64) _ _ _ 20 [.int .i64 20] from rfl) (Reps.one (show Kd.M (Kd.int .i64) _ _ _ 60 [.int .i64 60] from rfl) (Reps.one (show Kd.M (Kd.int .i64) _ _ _ 100 [.int .i64 100] from rfl) (Reps.one (show Kd.M (Kd.int .i64) _ _ _ 1000 [.int .i64 1000] from rfl) (Reps.one (show Kd.M (Kd.int .i64) _ _ _ 1001 [.int .i64 1001] from rfl) (Reps.one (show Kd.M (Kd.int .i64) _ _ _ 0 [.int .i64 0] from rfl) (Reps.none _ _)))))))))); intro v216 w6 ho7 hb hg_ hnew_; clear hg_ hnew_; (first | rw [← Ny215.out] at ho7 | (simp only [Int.reduceToNat] at ho7; rw [← Ny215.out] at ho7)); have n0_ := Aside0.mk (Kd.R_lower ho7 (below_size (by repeat (first | (with_reducible first | exact HB.out | apply below_alloc | apply pw_below_drewN | apply below_drew1 | refine below_set ?_ (IsS79.ge HI214.out) | refine below_set ?_ GE213.out) | exact HB.out)))); have n1_ := kB BK213 hb; have n2_ := Aside0.mk (IsS79.below (by repeat (first | (with_reducible first | exact HI214.out | apply IsS79.alloc | apply IsS79.drewN | apply IsS79.drew | apply IsS79.set_1 | apply IsS79.set_2 | refine IsS79.far ?_ NB214_213.out _) | exact HI214.out)) hb); have n3_ := Aside0.mk (below_step (by repeat (first | (with_reducible first | exact HB.out | apply below_alloc | apply pw_below_drewN | apply below_drew1 | refine below_set ?_ (IsS79.ge HI214.out) | refine below_set ?_ GE213.out) | exact HB.out)) hb); clear BK213; clear HI214; clear HB; have HO217 := n0_; have BK213 := n1_; have HI214 := n2_; have HB := n3_; clear n0_ n1_ n2_ n3_; clear hb ho7; obtain ⟨Ao8, co8, eo8⟩ := Kd.R_slice HO217.out; subst eo8) | ((with_reducible refine gate_callee (f := 79) rfl ?_); refine kE (some 11) Try.func79 #[.pointer (some ⟨gb214, 0, none⟩), .slice Ao8 y215.length co8] rfl ?_; (with_reducible refine (spec_l1Cur_among.calls gb214 l0 0 0 _ _ y215 t218 t219 t220 w _ ?side1 ?side2 ?side3 ?side4 ?side5 A2.out).mono ?_); (case side1 => repeat (first | (with_reducible first | exact HI214.out | apply IsS79.alloc | apply IsS79.drewN | apply IsS79.drew | apply IsS79.set_1 | apply IsS79.set_2 | refine IsS79.far ?_ NB214_213.out _) | exact HI214.out)); (case side2 => repeat (first | (with_reducible first | exact HB.out | apply below_alloc | apply pw_below_drewN | apply below_drew1 | refine below_set ?_ (IsS79.ge HI214.out) | refine below_set ?_ GE213.out) | exact HB.out)); (case side3 => repeat (first | exact (Kd.R_reads' HO217.out).2.2 | (with_reducible refine Kd.C_alloc ?_ _) | (with_reducible refine Kd.C_drewN ?_ _) | (with_reducible refine Kd.C_drew ?_))); (case side4 => exact (Kd.R_reads' HO217.out).2.1); (case side5 => exact far_slice (IsS79.own_ne HI214.out HO217.out (by decide))); rintro e w9 ⟨rfl, hi, hb, hk⟩; refine ⟨_, rfl, ?_⟩; have n0_ := Aside0.mk (KeepBut.blk hk (g' := gb213) (o := .cells #[.int .i64 0, .int .i64 0] 43 (0, 0)) kC NB213_214.out (by simp)); have n1_ := Aside0.mk (Kd.R_mono (Kd.R_keep (IsS79.apart (show IsS79 w _ gb214 l0 0 0 from by repeat (first | (with_reducible first | exact HI214.out | apply IsS79.alloc | apply IsS79.drewN | apply IsS79.drew | apply IsS79.set_1 | apply IsS79.set_2 | refine IsS79.far ?_ NB214_213.out _) | exact HI214.out)) (by (with_reducible repeat (first | apply Kd.R_alloc | apply Kd.R_drewN | apply Kd.R_drew)); exact HO217.out) (by decide)) hk (fun _ h => h.2)) (fun _ h => h.1)); have n2_ := Aside0.mk (hb); have n3_ := Aside0.mk (hi); clear BK213; clear HO217; clear HB; clear HI214; have BK213 := n0_; have HO217 := n1_; have HB := n2_; have HI214 := n3_; clear n0_ n1_ n2_ n3_; (try clear hb); (try clear hk); (try clear hi)) | ((with_reducible refine gate_callee (f := 70) rfl ?_); refine kE (some 14) Try.func70 #[.pointer (some ⟨gb214, 0, none⟩)] rfl ?_; (with_reducible refine (spec_l1Cur_ratio.calls gb214 l0 t219 t220 t221 t222 t223 t224 w _ ?side1 ?side2 A3.out).mono ?_); (case side1 => repeat (first | (with_reducible first | exact HI214.out | apply IsS79.alloc | apply IsS79.drewN | apply IsS79.drew | apply IsS79.set_1 | apply IsS79.set_2 | refine IsS79.far ?_ NB214_213.out _) | exact HI214.out)); (case side2 => repeat (first | (with_reducible first | exact HB.out | apply below_alloc | apply pw_below_drewN | apply below_drew1 | refine below_set ?_ (IsS79.ge HI214.out) | refine below_set ?_ GE213.out) | exact HB.out)); rintro e w10 ⟨rfl, hi, hb, hk⟩; refine ⟨_, rfl, ?_⟩; have n0_ := Aside0.mk (KeepBut.blk hk (g' := gb213) (o := .cells #[.int .i64 0, .int .i64 0] 43 (0, 0)) kC NB213_214.out (by simp)); have n1_ := Aside0.mk (Kd.R_mono (Kd.R_keep (IsS79.apart (show IsS79 w _ gb214 l0 t219 t220 from by repeat (first | (with_reducible first | exact HI214.out | apply IsS79.alloc | apply IsS79.drewN | apply IsS79.drew | apply IsS79.set_1 | apply IsS79.set_2 | refine IsS79.far ?_ NB214_213.out _) | exact HI214.out)) (by (with_reducible repeat (first | apply Kd.R_alloc | apply Kd.R_drewN | apply Kd.R_drew)); exact HO217.out) (by decide)) hk (fun _ h => h.2)) (fun _ h => h.1)); have n2_ := Aside0.mk (hb); have n3_ := Aside0.mk (hi); clear BK213; clear HO217; clear HB; clear HI214; have BK213 := n0_; have HO217 := n1_; have HB := n2_; have HI214 := n3_; clear n0_ n1_ n2_ n3_; (try clear hb); (try clear hk); (try clear hi); have hnb11 := NB213_214.out; have hnc11 := NB214_213.out; have hcz12_0 : w10.cell? ⟨gb213, 0, none⟩ = some (.int .i64 0) := (blk_cell BK213.out 0).trans rfl; have hcz12_1 : w10.cell? ⟨gb213, 1, none⟩ = some (.int .i64 0) := (blk_cell BK213.out 1).trans rfl; have hfz12_0 := blk_frozen BK213.out 0; have hfz12_1 := blk_frozen BK213.out 1))
 refine bodyPost_ret (results_tc rfl _ _ gb213 43 #[.int .i64 t221, .int .i64 t222] (0, 0) _ rfl (by (with_reducible repeat (first | refine blk_drewN ?_ _ | refine blk_drew ?_ | refine blk_alloc ?_ _)); refine blk_put (cs := #[.int .i64 t221, .int .i64 0]) ?_ 1 _ rfl; (with_reducible repeat (first | refine blk_drewN ?_ _ | refine blk_drew ?_ | refine blk_alloc ?_ _)); refine blk_put (cs := #[.int .i64 0, .int .i64 0]) ?_ 0 _ rfl; (with_reducible repeat (first | refine blk_drewN ?_ _ | refine blk_drew ?_ | refine blk_alloc ?_ _)); exact BK213.out) Try.underlying43 rfl (by kernel_rfl)) rfl ?_
 exact ⟨by first | rfl | (simp [errW_none, errW_some] <;> rfl) | (simp [*, errW_none, errW_some] <;> rfl), by repeat (first | (with_reducible first | exact HB.out | apply below_alloc | apply pw_below_drewN | apply below_drew1 | refine below_set ?_ (IsS79.ge HI214.out) | refine below_set ?_ GE213.out) | exact HB.out)⟩

/-! ### impl_twoAges: function 80 -/
def impl_twoAges.f (k : Nat) (a0 : Int) (a1 : Int) (a2 : Int) (a3 : Int) : Option (Int × Int × Int) := (impl_quotient.f k a0 a1).bind fun bt225 => ((impl_quotient.f k a2 a3).bind fun bt227 => ((impl_divisor.f k bt225.2 bt227.2).bind fun t229 => (if t229 = 0 then (none) else (if bt225.2 = 0 then (none) else (if bt227.2 = 0 then (none) else (some (wrap64 (bt225.1 * (wrap64 (Int.tdiv (wrap64 ((wrap64 (Int.tdiv bt225.2 t229)) * bt227.2)) bt225.2))), wrap64 (bt227.1 * (wrap64 (Int.tdiv (wrap64 ((wrap64 (Int.tdiv bt225.2 t229)) * bt227.2)) bt227.2))), wrap64 ((wrap64 (Int.tdiv bt225.2 t229)) * bt227.2))))))))
set_option maxHeartbeats 8000000 in
set_option maxRecDepth 100000 in
theorem impl_twoAges.calls (k : Nat) (a0 : Int) (a1 : Int) (a2 : Int) (a3 : Int) (r1 : Int) (r2 : Int) (r3 : Int) (w : World) (h : impl_twoAges.f k a0 a1 a2 a3 = some (r1, r2, r3)) :
  Calls Try.prog 80 #[.int .i64 a0, .int .i64 a1, .int .i64 a2, .int .i64 a3] w fun e w' => e = .returned (.tuple #[.int .i64 r1, .int .i64 r2, .int .i64 r3]) ∧ Below w.heap.size w w' := by
 have HB := Aside0.mk (Below.refl w.heap.size w)
 have H : ((impl_quotient.f k a0 a1).bind fun bt225 => ((impl_quotient.f k a2 a3).bind fun bt227 => ((impl_divisor.f k bt225.2 bt227.2).bind fun t229 => (if t229 = 0 then (none) else (if bt225.2 = 0 then (none) else (if bt227.2 = 0 then (none) else (some (wrap64 (bt225.1 * (wrap64 (Int.tdiv (wrap64 ((wrap64 (Int.tdiv bt225.2 t229)) * bt227.2)) bt225.2))), wrap64 (bt227.1 * (wrap64 (Int.tdiv (wrap64 ((wrap64 (Int.tdiv bt225.2 t229)) * bt227.2)) bt227.2))), wrap64 ((wrap64 (Int.tdiv bt225.2 t229)) * bt227.2))))))))) = some (r1, r2, r3) := h
 clear h
 replace H := Option.bind_eq_some_iff.mp H
 obtain ⟨⟨t225, t226⟩, A50, H⟩ := H
 replace H : ((impl_quotient.f k a2 a3).bind fun bt227 => ((impl_divisor.f k t226 bt227.2).bind fun t229 => (if t229 = 0 then (none) else (if t226 = 0 then (none) else (if bt227.2 = 0 then (none) else (some (wrap64 (t225 * (wrap64 (Int.tdiv (wrap64 ((wrap64 (Int.tdiv t226 t229)) * bt227.2)) t226))), wrap64 (bt227.1 * (wrap64 (Int.tdiv (wrap64 ((wrap64 (Int.tdiv t226 t229)) * bt227.2)) bt227.2))), wrap64 ((wrap64 (Int.tdiv t226 t229)) * bt227.2)))))))) = some (r1, r2, r3) := H
 have A5 := Aside0.mk A50
 clear A50
 replace H := Option.bind_eq_some_iff.mp H
 obtain ⟨⟨t227, t228⟩, A60, H⟩ := H
 replace H : ((impl_divisor.f k t226 t228).bind fun t229 => (if t229 = 0 then (none) else (if t226 = 0 then (none) else (if t228 = 0 then (none) else (some (wrap64 (t225 * (wrap64 (Int.tdiv (wrap64 ((wrap64 (Int.tdiv t226 t229)) * t228)) t226))), wrap64 (t227 * (wrap64 (Int.tdiv (wrap64 ((wrap64 (Int.tdiv t226 t229)) * t228)) t228))), wrap64 ((wrap64 (Int.tdiv t226 t229)) * t228))))))) = some (r1, r2, r3) := H
 have A6 := Aside0.mk A60
 clear A60
 replace H := Option.bind_eq_some_iff.mp H
 obtain ⟨t229, A70, H⟩ := H
 replace H : (if t229 = 0 then (none) else (if t226 = 0 then (none) else (if t228 = 0 then (none) else (some (wrap64 (t225 * (wrap64 (Int.tdiv (wrap64 ((wrap64 (Int.tdiv t226 t229)) * t228)) t226))), wrap64 (t227 * (wrap64 (Int.tdiv (wrap64 ((wrap64 (Int.tdiv t226 t229)) * t228)) t228))), wrap64 ((wrap64 (Int.tdiv t226 t229)) * t228)))))) = some (r1, r2, r3) := H
 have A7 := Aside0.mk A70
 clear A70
 by_cases c8 : t229 = 0
 ·rw [if_pos c8] at H
  exact absurd H (by simp)
 ·rw [if_neg c8] at H
  have c8b0 : (t229 == 0) = false := beq_eq_false_iff_ne.mpr c8
  have c8b1 : (t229 != 0) = true := bne_iff_ne.mpr c8
  by_cases c9 : t226 = 0
  ·rw [if_pos c9] at H
   exact absurd H (by simp)
  ·rw [if_neg c9] at H
   have c9b0 : (t226 == 0) = false := beq_eq_false_iff_ne.mpr c9
   have c9b1 : (t226 != 0) = true := bne_iff_ne.mpr c9
   by_cases c10 : t228 = 0
   ·rw [if_pos c10] at H
    exact absurd H (by simp)
   ·rw [if_neg c10] at H
    have c10b0 : (t228 == 0) = false := beq_eq_false_iff_ne.mpr c10
    have c10b1 : (t228 != 0) = true := bne_iff_ne.mpr c10
    simp only [Option.some.injEq, Prod.mk.injEq] at H
    obtain ⟨rfl, rfl, rfl⟩ := H
    go_enter Try.func80, Try.ntmps80
    go_wp2_with (first | (go_at_call 59; (with_reducible refine (impl_quotient.calls k a0 a1 t225 t226 _ A5.out).mono ?_); rintro e w11 ⟨rfl, hb⟩; have n0_ := kH HB hb; replace HB := n0_; clear n0_; (try clear hb)) | (go_at_call 59; (with_reducible refine (impl_quotient.calls k a2 a3 t227 t228 _ A6.out).mono ?_); rintro e w12 ⟨rfl, hb⟩; have n0_ := kH HB hb; replace HB := n0_; clear n0_; (try clear hb)) | (go_at_call 87; (with_reducible refine (impl_divisor.calls k t226 t228 t229 _ A7.out).mono ?_); rintro e w13 ⟨rfl, hb⟩; have n0_ := kH HB hb; replace HB := n0_; clear n0_; (try clear hb)))
    repeat (go_quiet (first | (go_at_call 59; (with_reducible refine (impl_quotient.calls k a0 a1 t225 t226 _ A5.out).mono ?_); rintro e w11 ⟨rfl, hb⟩; have n0_ := kH HB hb; replace HB := n0_; clear n0_; (try clear hb)) | (go_at_call 59; (with_reducible refine (impl_quotient.calls k a2 a3 t227 t228 _ A6.out).mono ?_); rintro e w12 ⟨rfl, hb⟩; have n0_ := kH HB hb; replace HB := n0_; clear n0_; (try clear hb)) | (go_at_call 87; (with_reducible refine (impl_divisor.calls k t226 t228 t229 _ A7.out).mono ?_); rintro e w13 ⟨rfl, hb⟩; have n0_ := kH HB hb; replace HB := n0_; clear n0_; (try clear hb))); try go_wp2_with (first | (go_at_call 59; (with_reducible refine (impl_quotient.calls k a0 a1 t225 t226 _ A5.out).mono ?_); rintro e w11 ⟨rfl, hb⟩; have n0_ := kH HB hb; replace HB := n0_; clear n0_; (try clear hb)) | (go_at_call 59; (with_reducible refine (impl_quotient.calls k a2 a3 t227 t228 _ A6.out).mono ?_); rintro e w12 ⟨rfl, hb⟩; have n0_ := kH HB hb; replace HB := n0_; clear n0_; (try clear hb)) | (go_at_call 87; (with_reducible refine (impl_divisor.calls k t226 t228 t229 _ A7.out).mono ?_); rintro e w13 ⟨rfl, hb⟩; have n0_ := kH HB hb; replace HB := n0_; clear n0_; (try clear hb))))
    go_ret3
    exact ⟨by first | rfl | (simp [errW_none, errW_some] <;> rfl) | (simp [*, errW_none, errW_some] <;> rfl), kO⟩

/-! ### impl_AgesFromSum: function 33 -/
def impl_AgesFromSum.f (k : Nat) (a0 : Int) (a1_0 : Int) (a1_1 : Int) : Option (Int × Int × Int × Bool) := (impl_between.f a0 1 1000).bind fun t231 => (if t231 = true then ((impl_IsRatio.f a1_0 a1_1).bind fun t232 => (if t232 = true then ((impl_twoAges.f k (wrap64 (a0 * a1_0)) (wrap64 (a1_0 + a1_1)) (wrap64 (a0 * a1_1)) (wrap64 (a1_0 + a1_1))).bind fun bt233 => (some (bt233.1, bt233.2.1, bt233.2.2, true))) else (some (0, 0, 0, false)))) else (some (0, 0, 0, false)))
set_option maxHeartbeats 8000000 in
set_option maxRecDepth 100000 in
theorem impl_AgesFromSum.calls (k : Nat) (a0 : Int) (a1_0 : Int) (a1_1 : Int) (r1 : Int) (r2 : Int) (r3 : Int) (r4 : Bool) (w : World) (h : impl_AgesFromSum.f k a0 a1_0 a1_1 = some (r1, r2, r3, r4)) :
  Calls Try.prog 33 #[.int .i64 a0, .agg #[.int .i64 a1_0, .int .i64 a1_1]] w fun e w' => e = .returned (.tuple #[.int .i64 r1, .int .i64 r2, .int .i64 r3, .bool r4]) ∧ Below w.heap.size w w' := by
 have hu43 := Try.underlying43
 have HB := Aside0.mk (Below.refl w.heap.size w)
 have H : ((impl_between.f a0 1 1000).bind fun t231 => (if t231 = true then ((impl_IsRatio.f a1_0 a1_1).bind fun t232 => (if t232 = true then ((impl_twoAges.f k (wrap64 (a0 * a1_0)) (wrap64 (a1_0 + a1_1)) (wrap64 (a0 * a1_1)) (wrap64 (a1_0 + a1_1))).bind fun bt233 => (some (bt233.1, bt233.2.1, bt233.2.2, true))) else (some (0, 0, 0, false)))) else (some (0, 0, 0, false)))) = some (r1, r2, r3, r4) := h
 clear h
 replace H := Option.bind_eq_some_iff.mp H
 obtain ⟨t231, A30, H⟩ := H
 replace H : (if t231 = true then ((impl_IsRatio.f a1_0 a1_1).bind fun t232 => (if t232 = true then ((impl_twoAges.f k (wrap64 (a0 * a1_0)) (wrap64 (a1_0 + a1_1)) (wrap64 (a0 * a1_1)) (wrap64 (a1_0 + a1_1))).bind fun bt233 => (some (bt233.1, bt233.2.1, bt233.2.2, true))) else (some (0, 0, 0, false)))) else (some (0, 0, 0, false))) = some (r1, r2, r3, r4) := H
 have A3 := Aside0.mk A30
 clear A30
 by_cases c4 : t231 = true
 ·subst c4
  have H1 : ((impl_IsRatio.f a1_0 a1_1).bind fun t232 => (if t232 = true then ((impl_twoAges.f k (wrap64 (a0 * a1_0)) (wrap64 (a1_0 + a1_1)) (wrap64 (a0 * a1_1)) (wrap64 (a1_0 + a1_1))).bind fun bt233 => (some (bt233.1, bt233.2.1, bt233.2.2, true))) else (some (0, 0, 0, false)))) = some (r1, r2, r3, r4) := by rw [if_pos rfl] at H; exact H
  clear H
  have H := H1
  clear H1
  replace H := Option.bind_eq_some_iff.mp H
  obtain ⟨t232, A50, H⟩ := H
  replace H : (if t232 = true then ((impl_twoAges.f k (wrap64 (a0 * a1_0)) (wrap64 (a1_0 + a1_1)) (wrap64 (a0 * a1_1)) (wrap64 (a1_0 + a1_1))).bind fun bt233 => (some (bt233.1, bt233.2.1, bt233.2.2, true))) else (some (0, 0, 0, false))) = some (r1, r2, r3, r4) := H
  have A5 := Aside0.mk A50
  clear A50
  by_cases c6 : t232 = true
  ·subst c6
   have H1 : ((impl_twoAges.f k (wrap64 (a0 * a1_0)) (wrap64 (a1_0 + a1_1)) (wrap64 (a0 * a1_1)) (wrap64 (a1_0 + a1_1))).bind fun bt233 => (some (bt233.1, bt233.2.1, bt233.2.2, true))) = some (r1, r2, r3, r4) := by rw [if_pos rfl] at H; exact H
   clear H
   have H := H1
   clear H1
   replace H := Option.bind_eq_some_iff.mp H
   obtain ⟨⟨t233, t234, t235⟩, A70, H⟩ := H
   replace H : (some (t233, t234, t235, true)) = some (r1, r2, r3, r4) := H
   have A7 := Aside0.mk A70
   clear A70
   simp only [Option.some.injEq, Prod.mk.injEq] at H
   obtain ⟨rfl, rfl, rfl, rfl⟩ := H
   go_enter Try.func33, Try.ntmps33
   go_wp2_with (first | ((with_reducible refine gate_dst (N := 3) rfl ?_); refine box_event ?hg (N := 3) ?hd (cs := #[.int .i64 a1_0, .int .i64 a1_1]) (t := 43) ?hr ?_; (case hd => rfl); (case hg => rfl); (case hr => first | (go_simp; done) | (go_simp; rfl)); intro gb230 hg w8 hbox hb; have n0_ := kH HB hb; have n1_ := Aside0.mk (hbox); have n2_ := kG HB hg; have n3_ := kG HB hg; replace HB := n0_; have BK230 := n1_; have GW230 := n2_; have GE230 := n3_; clear n0_ n1_ n2_ n3_; clear hb hbox hg) | ((with_reducible refine gate_callee (f := 57) rfl ?_); refine kE (some 12) Try.func57 #[.int .i64 a0, .int .i64 1, .int .i64 1000] rfl ?_; (with_reducible refine (impl_between.calls a0 1 1000 true _ A3.out).mono ?_); rintro e w' ⟨rfl, ⟨nd, rfl⟩⟩; refine ⟨_, rfl, ?_⟩; have hcz9_0 : w8.cell? ⟨gb230, 0, none⟩ = some (.int .i64 a1_0) := (blk_cell BK230.out 0).trans rfl; have hcz9_1 : w8.cell? ⟨gb230, 1, none⟩ = some (.int .i64 a1_1) := (blk_cell BK230.out 1).trans rfl; have hfz9_0 := blk_frozen BK230.out 0; have hfz9_1 := blk_frozen BK230.out 1) | (go_at_call 49; (with_reducible refine (impl_IsRatio.calls a1_0 a1_1 true _ A5.out).mono ?_); rintro e w10 ⟨rfl, hb⟩; have n0_ := kB BK230 hb; have n1_ := kH HB hb; replace BK230 := n0_; replace HB := n1_; clear n0_ n1_; (try clear hb); have hcz11_0 : w10.cell? ⟨gb230, 0, none⟩ = some (.int .i64 a1_0) := (blk_cell BK230.out 0).trans rfl; have hcz11_1 : w10.cell? ⟨gb230, 1, none⟩ = some (.int .i64 a1_1) := (blk_cell BK230.out 1).trans rfl; have hfz11_0 := blk_frozen BK230.out 0; have hfz11_1 := blk_frozen BK230.out 1) | ((with_reducible refine gate_callee (f := 80) rfl ?_); refine kE (some 38) Try.func80 #[.int .i64 (wrap64 (a0 * a1_0)), .int .i64 (wrap64 (a1_0 + a1_1)), .int .i64 (wrap64 (a0 * a1_1)), .int .i64 (wrap64 (a1_0 + a1_1))] rfl ?_; (with_reducible refine (impl_twoAges.calls k (wrap64 (a0 * a1_0)) (wrap64 (a1_0 + a1_1)) (wrap64 (a0 * a1_1)) (wrap64 (a1_0 + a1_1)) t233 t234 t235 _ A7.out).mono ?_); rintro e w12 ⟨rfl, hb⟩; refine ⟨_, rfl, ?_⟩; have n0_ := kB BK230 hb; have n1_ := kH HB hb; replace BK230 := n0_; replace HB := n1_; clear n0_ n1_; (try clear hb)))
   refine bodyPost_ret (results_list (rs := [.tmp 4, .tmp 5, .tmp 6, .tmp 7]) rfl (by simp) (.tmp (.tmp (.tmp (.tmp .nil))))) rfl ?_
   exact ⟨by first | rfl | (simp [errW_none, errW_some] <;> rfl) | (simp [*, errW_none, errW_some] <;> rfl), kO⟩
  ·replace c6 := Bool.eq_false_iff.mpr c6
   subst c6
   have H1 : (some (0, 0, 0, false)) = some (r1, r2, r3, r4) := by rw [if_neg (show ¬ (false = true) by decide)] at H; exact H
   clear H
   have H := H1
   clear H1
   simp only [Option.some.injEq, Prod.mk.injEq] at H
   obtain ⟨rfl, rfl, rfl, rfl⟩ := H
   go_enter Try.func33, Try.ntmps33
   go_wp2_with (first | ((with_reducible refine gate_dst (N := 3) rfl ?_); refine box_event ?hg (N := 3) ?hd (cs := #[.int .i64 a1_0, .int .i64 a1_1]) (t := 43) ?hr ?_; (case hd => rfl); (case hg => rfl); (case hr => first | (go_simp; done) | (go_simp; rfl)); intro gb230 hg w13 hbox hb; have n0_ := kH HB hb; have n1_ := Aside0.mk (hbox); have n2_ := kG HB hg; have n3_ := kG HB hg; replace HB := n0_; have BK230 := n1_; have GW230 := n2_; have GE230 := n3_; clear n0_ n1_ n2_ n3_; clear hb hbox hg) | ((with_reducible refine gate_callee (f := 57) rfl ?_); refine kE (some 12) Try.func57 #[.int .i64 a0, .int .i64 1, .int .i64 1000] rfl ?_; (with_reducible refine (impl_between.calls a0 1 1000 true _ A3.out).mono ?_); rintro e w' ⟨rfl, ⟨nd, rfl⟩⟩; refine ⟨_, rfl, ?_⟩; have hcz14_0 : w13.cell? ⟨gb230, 0, none⟩ = some (.int .i64 a1_0) := (blk_cell BK230.out 0).trans rfl; have hcz14_1 : w13.cell? ⟨gb230, 1, none⟩ = some (.int .i64 a1_1) := (blk_cell BK230.out 1).trans rfl; have hfz14_0 := blk_frozen BK230.out 0; have hfz14_1 := blk_frozen BK230.out 1) | (go_at_call 49; (with_reducible refine (impl_IsRatio.calls a1_0 a1_1 false _ A5.out).mono ?_); rintro e w15 ⟨rfl, hb⟩; have n0_ := kB BK230 hb; have n1_ := kH HB hb; replace BK230 := n0_; replace HB := n1_; clear n0_ n1_; (try clear hb)))
   refine bodyPost_ret (results_list (rs := [.tmp 4, .tmp 5, .tmp 6, .tmp 7]) rfl (by simp) (.tmp (.tmp (.tmp (.tmp .nil))))) rfl ?_
   exact ⟨by first | rfl | (simp [errW_none, errW_some] <;> rfl) | (simp [*, errW_none, errW_some] <;> rfl), kO⟩
 ·replace c4 := Bool.eq_false_iff.mpr c4
  subst c4
  have H1 : (some (0, 0, 0, false)) = some (r1, r2, r3, r4) := by rw [if_neg (show ¬ (false = true) by decide)] at H; exact H
  clear H
  have H := H1
  clear H1
  simp only [Option.some.injEq, Prod.mk.injEq] at H
  obtain ⟨rfl, rfl, rfl, rfl⟩ := H
  go_enter Try.func33, Try.ntmps33
  go_wp2_with (first | ((with_reducible refine gate_dst (N := 3) rfl ?_); refine box_event ?hg (N := 3) ?hd (cs := #[.int .i64 a1_0, .int .i64 a1_1]) (t := 43) ?hr ?_; (case hd => rfl); (case hg => rfl); (case hr => first | (go_simp; done) | (go_simp; rfl)); intro gb230 hg w16 hbox hb; have n0_ := kH HB hb; have n1_ := Aside0.mk (hbox); have n2_ := kG HB hg; have n3_ := kG HB hg; replace HB := n0_; have BK230 := n1_; have GW230 := n2_; have GE230 := n3_; clear n0_ n1_ n2_ n3_; clear hb hbox hg) | ((with_reducible refine gate_callee (f := 57) rfl ?_); refine kE (some 12) Try.func57 #[.int .i64 a0, .int .i64 1, .int .i64 1000] rfl ?_; (with_reducible refine (impl_between.calls a0 1 1000 false _ A3.out).mono ?_); rintro e w' ⟨rfl, ⟨nd, rfl⟩⟩; refine ⟨_, rfl, ?_⟩))
  refine bodyPost_ret (results_list (rs := [.tmp 4, .tmp 5, .tmp 6, .tmp 7]) rfl (by simp) (.tmp (.tmp (.tmp (.tmp .nil))))) rfl ?_
  exact ⟨by first | rfl | (simp [errW_none, errW_some] <;> rfl) | (simp [*, errW_none, errW_some] <;> rfl), kO⟩

/-! ### spec_raThree: function 81 -/
def spec_raThree.l0 : Nat → Int → Int → Int → Int → Int → Option (Int × Int × Int)
 | 0, _, _, _, _, _ => none
 | k + 1, x9, x10, x11, x12, x13 => if x12 = 0 then (none) else (if (Int.tmod x13 x12) = 0 then (if x10 = 0 then (none) else (some (wrap64 (x9 * (wrap64 (Int.tdiv x13 x10))), wrap64 (x11 * (wrap64 (Int.tdiv x13 x12))), x13))) else (spec_raThree.l0 k x9 x10 x11 x12 (wrap64 (x13 + x10))))
def spec_raThree.f (k : Nat) (a0 : Int) (a1 : Int) (a2 : Int) : Option (Int × Int × Int) := (spec_raLow.f k a0 a2).bind fun bt236 => ((spec_raLow.f k a1 a2).bind fun bt238 => (spec_raThree.l0 k bt236.1 bt236.2 bt238.1 bt238.2 bt236.2))
set_option maxHeartbeats 8000000 in
set_option maxRecDepth 100000 in
theorem spec_raThree.calls (k : Nat) (a0 : Int) (a1 : Int) (a2 : Int) (r1 : Int) (r2 : Int) (r3 : Int) (w : World) (h : spec_raThree.f k a0 a1 a2 = some (r1, r2, r3)) :
  Calls Try.prog 81 #[.int .i64 a0, .int .i64 a1, .int .i64 a2] w fun e w' => e = .returned (.tuple #[.int .i64 r1, .int .i64 r2, .int .i64 r3]) ∧ Drawn0 w w' := by
 have H : ((spec_raLow.f k a0 a2).bind fun bt236 => ((spec_raLow.f k a1 a2).bind fun bt238 => (spec_raThree.l0 k bt236.1 bt236.2 bt238.1 bt238.2 bt236.2))) = some (r1, r2, r3) := h
 clear h
 replace H := Option.bind_eq_some_iff.mp H
 obtain ⟨⟨t236, t237⟩, A40, H⟩ := H
 replace H : ((spec_raLow.f k a1 a2).bind fun bt238 => (spec_raThree.l0 k t236 t237 bt238.1 bt238.2 t237)) = some (r1, r2, r3) := H
 have A4 := Aside0.mk A40
 clear A40
 replace H := Option.bind_eq_some_iff.mp H
 obtain ⟨⟨t238, t239⟩, A50, H⟩ := H
 replace H : (spec_raThree.l0 k t236 t237 t238 t239 t237) = some (r1, r2, r3) := H
 have A5 := Aside0.mk A50
 clear A50
 have H' := Aside0.mk H
 clear H
 go_enter Try.func81, Try.ntmps81
 go_wp2_with (first | (go_at_call 54; (with_reducible refine (spec_raLow.calls k a0 a2 t236 t237 _ A4.out).mono ?_); rintro e w' ⟨rfl, ⟨nd, rfl⟩⟩; (try first | exact ⟨rfl, _, World.drewN_drewN _ _ _⟩ | exact ⟨rfl, _, Eq.trans (World.drewN_drewN _ _ _) (congrArg (World.drewN _) (Nat.add_assoc _ _ _))⟩)) | (go_at_call 54; (with_reducible refine (spec_raLow.calls k a1 a2 t238 t239 _ A5.out).mono ?_); rintro e w' ⟨rfl, ⟨nd, rfl⟩⟩; (try first | exact ⟨rfl, _, World.drewN_drewN _ _ _⟩ | exact ⟨rfl, _, Eq.trans (World.drewN_drewN _ _ _) (congrArg (World.drewN _) (Nat.add_assoc _ _ _))⟩)))
 repeat (go_quiet (first | (go_at_call 54; (with_reducible refine (spec_raLow.calls k a0 a2 t236 t237 _ A4.out).mono ?_); rintro e w' ⟨rfl, ⟨nd, rfl⟩⟩; (try first | exact ⟨rfl, _, World.drewN_drewN _ _ _⟩ | exact ⟨rfl, _, Eq.trans (World.drewN_drewN _ _ _) (congrArg (World.drewN _) (Nat.add_assoc _ _ _))⟩)) | (go_at_call 54; (with_reducible refine (spec_raLow.calls k a1 a2 t238 t239 _ A5.out).mono ?_); rintro e w' ⟨rfl, ⟨nd, rfl⟩⟩; (try first | exact ⟨rfl, _, World.drewN_drewN _ _ _⟩ | exact ⟨rfl, _, Eq.trans (World.drewN_drewN _ _ _) (congrArg (World.drewN _) (Nat.add_assoc _ _ _))⟩))); try go_wp2_with (first | (go_at_call 54; (with_reducible refine (spec_raLow.calls k a0 a2 t236 t237 _ A4.out).mono ?_); rintro e w' ⟨rfl, ⟨nd, rfl⟩⟩; (try first | exact ⟨rfl, _, World.drewN_drewN _ _ _⟩ | exact ⟨rfl, _, Eq.trans (World.drewN_drewN _ _ _) (congrArg (World.drewN _) (Nat.add_assoc _ _ _))⟩)) | (go_at_call 54; (with_reducible refine (spec_raLow.calls k a1 a2 t238 t239 _ A5.out).mono ?_); rintro e w' ⟨rfl, ⟨nd, rfl⟩⟩; (try first | exact ⟨rfl, _, World.drewN_drewN _ _ _⟩ | exact ⟨rfl, _, Eq.trans (World.drewN_drewN _ _ _) (congrArg (World.drewN _) (Nat.add_assoc _ _ _))⟩))))
 go_loopg [13] k (fun kq v13 w' => ∃ (x13_1 : Int), v13 = .int .i64 x13_1 ∧ Aside0 (spec_raThree.l0 kq t236 t237 t238 t239 x13_1 = some (r1, r2, r3)) ∧ Aside0 (kq ≤ k) ∧ Drawn0 w w')
 case atStart => exact ⟨(t237), (by first | rfl | (simp; done) | (simp [*]; done)), H', ⟨Nat.le_refl _⟩, by repeat (first | exact Drawn0.refl _ | apply Drawn0.step)⟩
 case round =>
  clear H'
  obtain ⟨x13_1, rfl, HA, HK1, ⟨m1, rfl⟩⟩ := hrel
  cases gk with
  | zero => exact absurd HA.out (by simp [spec_raThree.l0])
  | succ k1 =>
   have H := HA.out
   clear HA
   simp only [spec_raThree.l0] at H
   by_cases c6 : t239 = 0
   ·rw [if_pos c6] at H
    exact absurd H (by simp)
   ·rw [if_neg c6] at H
    have c6b0 : (t239 == 0) = false := beq_eq_false_iff_ne.mpr c6
    have c6b1 : (t239 != 0) = true := bne_iff_ne.mpr c6
    by_cases c7 : (Int.tmod x13_1 t239) = 0
    ·rw [if_pos c7] at H
     have c7b0 : ((Int.tmod x13_1 t239) == 0) = true := beq_iff_eq.mpr c7
     have c7b1 : ((Int.tmod x13_1 t239) != 0) = false := bne_eq_false_iff_eq.mpr c7
     clear c7
     by_cases c8 : t237 = 0
     ·rw [if_pos c8] at H
      exact absurd H (by simp)
     ·rw [if_neg c8] at H
      have c8b0 : (t237 == 0) = false := beq_eq_false_iff_ne.mpr c8
      have c8b1 : (t237 != 0) = true := bne_iff_ne.mpr c8
      simp only [Option.some.injEq, Prod.mk.injEq] at H
      obtain ⟨rfl, rfl, rfl⟩ := H
      go_wp2
      repeat (go_quiet (fail); try go_wp2)
      go_ret3
      exact ⟨by first | rfl | (simp; done) | (simp [*]; done), by repeat (first | exact Drawn0.refl _ | apply Drawn0.step)⟩
    ·rw [if_neg c7] at H
     have c7b0 : ((Int.tmod x13_1 t239) == 0) = false := beq_eq_false_iff_ne.mpr c7
     have c7b1 : ((Int.tmod x13_1 t239) != 0) = true := bne_iff_ne.mpr c7
     have H' := Aside0.mk H
     clear H
     go_wp2
     repeat (go_quiet (fail); try go_wp2)
     go_roundg k1
     case measure => have := HK1.out; omega
     case rel => exact ⟨(wrap64 (x13_1 + t237)), (by first | rfl | (simp; done) | (simp [*]; done)), H', ⟨by have := HK1.out; omega⟩, by repeat (first | exact Drawn0.refl _ | apply Drawn0.step)⟩

/-! ### spec_AgesFromSum: function 34 -/
def spec_AgesFromSum.f (k : Nat) (a0 : Int) (a1_0 : Int) (a1_1 : Int) : Option (Int × Int × Int × Bool) := (spec_l1In.f a0 1 1000).bind fun t241 => (if t241 = true then ((spec_raGood.f a1_0 a1_1).bind fun t242 => (if t242 = true then ((spec_raThree.f k (wrap64 (a0 * a1_0)) (wrap64 (a0 * a1_1)) (wrap64 (a1_0 + a1_1))).bind fun bt243 => (some (bt243.1, bt243.2.1, bt243.2.2, true))) else (some (0, 0, 0, false)))) else (some (0, 0, 0, false)))
set_option maxHeartbeats 8000000 in
set_option maxRecDepth 100000 in
theorem spec_AgesFromSum.calls (k : Nat) (a0 : Int) (a1_0 : Int) (a1_1 : Int) (r1 : Int) (r2 : Int) (r3 : Int) (r4 : Bool) (w : World) (h : spec_AgesFromSum.f k a0 a1_0 a1_1 = some (r1, r2, r3, r4)) :
  Calls Try.prog 34 #[.int .i64 a0, .agg #[.int .i64 a1_0, .int .i64 a1_1]] w fun e w' => e = .returned (.tuple #[.int .i64 r1, .int .i64 r2, .int .i64 r3, .bool r4]) ∧ Below w.heap.size w w' := by
 have hu43 := Try.underlying43
 have HB := Aside0.mk (Below.refl w.heap.size w)
 have H : ((spec_l1In.f a0 1 1000).bind fun t241 => (if t241 = true then ((spec_raGood.f a1_0 a1_1).bind fun t242 => (if t242 = true then ((spec_raThree.f k (wrap64 (a0 * a1_0)) (wrap64 (a0 * a1_1)) (wrap64 (a1_0 + a1_1))).bind fun bt243 => (some (bt243.1, bt243.2.1, bt243.2.2, true))) else (some (0, 0, 0, false)))) else (some (0, 0, 0, false)))) = some (r1, r2, r3, r4) := h
 clear h
 replace H := Option.bind_eq_some_iff.mp H
 obtain ⟨t241, A30, H⟩ := H
 replace H : (if t241 = true then ((spec_raGood.f a1_0 a1_1).bind fun t242 => (if t242 = true then ((spec_raThree.f k (wrap64 (a0 * a1_0)) (wrap64 (a0 * a1_1)) (wrap64 (a1_0 + a1_1))).bind fun bt243 => (some (bt243.1, bt243.2.1, bt243.2.2, true))) else (some (0, 0, 0, false)))) else (some (0, 0, 0, false))) = some (r1, r2, r3, r4) := H
 have A3 := Aside0.mk A30
 clear A30
 by_cases c4 : t241 = true
 ·subst c4
  have H1 : ((spec_raGood.f a1_0 a1_1).bind fun t242 => (if t242 = true then ((spec_raThree.f k (wrap64 (a0 * a1_0)) (wrap64 (a0 * a1_1)) (wrap64 (a1_0 + a1_1))).bind fun bt243 => (some (bt243.1, bt243.2.1, bt243.2.2, true))) else (some (0, 0, 0, false)))) = some (r1, r2, r3, r4) := by rw [if_pos rfl] at H; exact H
  clear H
  have H := H1
  clear H1
  replace H := Option.bind_eq_some_iff.mp H
  obtain ⟨t242, A50, H⟩ := H
  replace H : (if t242 = true then ((spec_raThree.f k (wrap64 (a0 * a1_0)) (wrap64 (a0 * a1_1)) (wrap64 (a1_0 + a1_1))).bind fun bt243 => (some (bt243.1, bt243.2.1, bt243.2.2, true))) else (some (0, 0, 0, false))) = some (r1, r2, r3, r4) := H
  have A5 := Aside0.mk A50
  clear A50
  by_cases c6 : t242 = true
  ·subst c6
   have H1 : ((spec_raThree.f k (wrap64 (a0 * a1_0)) (wrap64 (a0 * a1_1)) (wrap64 (a1_0 + a1_1))).bind fun bt243 => (some (bt243.1, bt243.2.1, bt243.2.2, true))) = some (r1, r2, r3, r4) := by rw [if_pos rfl] at H; exact H
   clear H
   have H := H1
   clear H1
   replace H := Option.bind_eq_some_iff.mp H
   obtain ⟨⟨t243, t244, t245⟩, A70, H⟩ := H
   replace H : (some (t243, t244, t245, true)) = some (r1, r2, r3, r4) := H
   have A7 := Aside0.mk A70
   clear A70
   simp only [Option.some.injEq, Prod.mk.injEq] at H
   obtain ⟨rfl, rfl, rfl, rfl⟩ := H
   go_enter Try.func34, Try.ntmps34
   go_wp2_with (first | ((with_reducible refine gate_dst (N := 3) rfl ?_); refine box_event ?hg (N := 3) ?hd (cs := #[.int .i64 a1_0, .int .i64 a1_1]) (t := 43) ?hr ?_; (case hd => rfl); (case hg => rfl); (case hr => first | (go_simp; done) | (go_simp; rfl)); intro gb240 hg w8 hbox hb; have n0_ := kH HB hb; have n1_ := Aside0.mk (hbox); have n2_ := kG HB hg; have n3_ := kG HB hg; replace HB := n0_; have BK240 := n1_; have GW240 := n2_; have GE240 := n3_; clear n0_ n1_ n2_ n3_; clear hb hbox hg) | ((with_reducible refine gate_callee (f := 52) rfl ?_); refine kE (some 12) Try.func52 #[.int .i64 a0, .int .i64 1, .int .i64 1000] rfl ?_; (with_reducible refine (spec_l1In.calls a0 1 1000 true _ A3.out).mono ?_); rintro e w' ⟨rfl, ⟨nd, rfl⟩⟩; refine ⟨_, rfl, ?_⟩; have hcz9_0 : w8.cell? ⟨gb240, 0, none⟩ = some (.int .i64 a1_0) := (blk_cell BK240.out 0).trans rfl; have hcz9_1 : w8.cell? ⟨gb240, 1, none⟩ = some (.int .i64 a1_1) := (blk_cell BK240.out 1).trans rfl; have hfz9_0 := blk_frozen BK240.out 0; have hfz9_1 := blk_frozen BK240.out 1) | (go_at_call 74; (with_reducible refine (spec_raGood.calls a1_0 a1_1 true _ A5.out).mono ?_); rintro e w10 ⟨rfl, hb⟩; have n0_ := kB BK240 hb; have n1_ := kH HB hb; replace BK240 := n0_; replace HB := n1_; clear n0_ n1_; (try clear hb); have hcz11_0 : w10.cell? ⟨gb240, 0, none⟩ = some (.int .i64 a1_0) := (blk_cell BK240.out 0).trans rfl; have hcz11_1 : w10.cell? ⟨gb240, 1, none⟩ = some (.int .i64 a1_1) := (blk_cell BK240.out 1).trans rfl; have hfz11_0 := blk_frozen BK240.out 0; have hfz11_1 := blk_frozen BK240.out 1) | ((with_reducible refine gate_callee (f := 81) rfl ?_); refine kE (some 33) Try.func81 #[.int .i64 (wrap64 (a0 * a1_0)), .int .i64 (wrap64 (a0 * a1_1)), .int .i64 (wrap64 (a1_0 + a1_1))] rfl ?_; (with_reducible refine (spec_raThree.calls k (wrap64 (a0 * a1_0)) (wrap64 (a0 * a1_1)) (wrap64 (a1_0 + a1_1)) t243 t244 t245 _ A7.out).mono ?_); rintro e w' ⟨rfl, ⟨nd, rfl⟩⟩; refine ⟨_, rfl, ?_⟩))
   refine bodyPost_ret (results_list (rs := [.tmp 4, .tmp 5, .tmp 6, .tmp 7]) rfl (by simp) (.tmp (.tmp (.tmp (.tmp .nil))))) rfl ?_
   exact ⟨by first | rfl | (simp [errW_none, errW_some] <;> rfl) | (simp [*, errW_none, errW_some] <;> rfl), kO⟩
  ·replace c6 := Bool.eq_false_iff.mpr c6
   subst c6
   have H1 : (some (0, 0, 0, false)) = some (r1, r2, r3, r4) := by rw [if_neg (show ¬ (false = true) by decide)] at H; exact H
   clear H
   have H := H1
   clear H1
   simp only [Option.some.injEq, Prod.mk.injEq] at H
   obtain ⟨rfl, rfl, rfl, rfl⟩ := H
   go_enter Try.func34, Try.ntmps34
   go_wp2_with (first | ((with_reducible refine gate_dst (N := 3) rfl ?_); refine box_event ?hg (N := 3) ?hd (cs := #[.int .i64 a1_0, .int .i64 a1_1]) (t := 43) ?hr ?_; (case hd => rfl); (case hg => rfl); (case hr => first | (go_simp; done) | (go_simp; rfl)); intro gb240 hg w12 hbox hb; have n0_ := kH HB hb; have n1_ := Aside0.mk (hbox); have n2_ := kG HB hg; have n3_ := kG HB hg; replace HB := n0_; have BK240 := n1_; have GW240 := n2_; have GE240 := n3_; clear n0_ n1_ n2_ n3_; clear hb hbox hg) | ((with_reducible refine gate_callee (f := 52) rfl ?_); refine kE (some 12) Try.func52 #[.int .i64 a0, .int .i64 1, .int .i64 1000] rfl ?_; (with_reducible refine (spec_l1In.calls a0 1 1000 true _ A3.out).mono ?_); rintro e w' ⟨rfl, ⟨nd, rfl⟩⟩; refine ⟨_, rfl, ?_⟩; have hcz13_0 : w12.cell? ⟨gb240, 0, none⟩ = some (.int .i64 a1_0) := (blk_cell BK240.out 0).trans rfl; have hcz13_1 : w12.cell? ⟨gb240, 1, none⟩ = some (.int .i64 a1_1) := (blk_cell BK240.out 1).trans rfl; have hfz13_0 := blk_frozen BK240.out 0; have hfz13_1 := blk_frozen BK240.out 1) | (go_at_call 74; (with_reducible refine (spec_raGood.calls a1_0 a1_1 false _ A5.out).mono ?_); rintro e w14 ⟨rfl, hb⟩; have n0_ := kB BK240 hb; have n1_ := kH HB hb; replace BK240 := n0_; replace HB := n1_; clear n0_ n1_; (try clear hb)))
   refine bodyPost_ret (results_list (rs := [.tmp 4, .tmp 5, .tmp 6, .tmp 7]) rfl (by simp) (.tmp (.tmp (.tmp (.tmp .nil))))) rfl ?_
   exact ⟨by first | rfl | (simp [errW_none, errW_some] <;> rfl) | (simp [*, errW_none, errW_some] <;> rfl), kO⟩
 ·replace c4 := Bool.eq_false_iff.mpr c4
  subst c4
  have H1 : (some (0, 0, 0, false)) = some (r1, r2, r3, r4) := by rw [if_neg (show ¬ (false = true) by decide)] at H; exact H
  clear H
  have H := H1
  clear H1
  simp only [Option.some.injEq, Prod.mk.injEq] at H
  obtain ⟨rfl, rfl, rfl, rfl⟩ := H
  go_enter Try.func34, Try.ntmps34
  go_wp2_with (first | ((with_reducible refine gate_dst (N := 3) rfl ?_); refine box_event ?hg (N := 3) ?hd (cs := #[.int .i64 a1_0, .int .i64 a1_1]) (t := 43) ?hr ?_; (case hd => rfl); (case hg => rfl); (case hr => first | (go_simp; done) | (go_simp; rfl)); intro gb240 hg w15 hbox hb; have n0_ := kH HB hb; have n1_ := Aside0.mk (hbox); have n2_ := kG HB hg; have n3_ := kG HB hg; replace HB := n0_; have BK240 := n1_; have GW240 := n2_; have GE240 := n3_; clear n0_ n1_ n2_ n3_; clear hb hbox hg) | ((with_reducible refine gate_callee (f := 52) rfl ?_); refine kE (some 12) Try.func52 #[.int .i64 a0, .int .i64 1, .int .i64 1000] rfl ?_; (with_reducible refine (spec_l1In.calls a0 1 1000 false _ A3.out).mono ?_); rintro e w' ⟨rfl, ⟨nd, rfl⟩⟩; refine ⟨_, rfl, ?_⟩))
  refine bodyPost_ret (results_list (rs := [.tmp 4, .tmp 5, .tmp 6, .tmp 7]) rfl (by simp) (.tmp (.tmp (.tmp (.tmp .nil))))) rfl ?_
  exact ⟨by first | rfl | (simp [errW_none, errW_some] <;> rfl) | (simp [*, errW_none, errW_some] <;> rfl), kO⟩

/-! ### spec_DrawAgesFromGap: function 35 -/
def spec_DrawAgesFromGap.f (l0 : List Int) : Option (Int × Int × Int) := (spec_l1Cur_among.f l0 0 0 (([1, 5, 20, 28, (-3), (-10), 0, 120, 121, (-120)] : List Int))).bind fun bt251 => ((spec_l1Cur_ratio.f l0 bt251.2.1 bt251.2.2).bind fun bt254 => (some (bt251.1, bt254.1, bt254.2.1)))
set_option maxHeartbeats 8000000 in
set_option maxRecDepth 100000 in
theorem spec_DrawAgesFromGap.calls (A0 : Option Addr) (c0 : Nat) (l0 : List Int) (r1 : Int) (r2 : Int) (r3 : Int) (w : World) (hr0 : Kd.C (Kd.int .u8) w A0 l0.length l0) (hc0 : l0.length ≤ c0) (h : spec_DrawAgesFromGap.f l0 = some (r1, r2, r3)) :
  Calls Try.prog 35 #[.slice A0 l0.length c0] w fun e w' => e = .returned (.tuple #[.int .i64 r1, .agg #[.int .i64 r2, .int .i64 r3]]) ∧ Below w.heap.size w w' := by
 have hu43 := Try.underlying43
 have hu79 := Try.underlying79
 have HR0 := Aside0.mk hr0
 have HC0 := Aside0.mk hc0
 clear hr0 hc0
 have HB := Aside0.mk (Below.refl w.heap.size w)
 have H : ((spec_l1Cur_among.f l0 0 0 (([1, 5, 20, 28, (-3), (-10), 0, 120, 121, (-120)] : List Int))).bind fun bt251 => ((spec_l1Cur_ratio.f l0 bt251.2.1 bt251.2.2).bind fun bt254 => (some (bt251.1, bt254.1, bt254.2.1)))) = some (r1, r2, r3) := h
 clear h
 obtain ⟨y248, hy248⟩ : ∃ y_ : List Int, y_ = (([1, 5, 20, 28, (-3), (-10), 0, 120, 121, (-120)] : List Int)) := ⟨_, rfl⟩
 replace H : ((spec_l1Cur_among.f l0 0 0 y248).bind fun bt251 => ((spec_l1Cur_ratio.f l0 bt251.2.1 bt251.2.2).bind fun bt254 => (some (bt251.1, bt254.1, bt254.2.1)))) = some (r1, r2, r3) := by first | (rw [hy248]; with_reducible exact H) | (have H2_ := (Option.bind_some _ _).symm.trans H; rw [hy248]; with_reducible exact H2_) | (have H2_ := (Option.bind_some _ _).symm.trans H; with_reducible exact H2_) | with_reducible exact H | (rw [hy248]; exact H) | exact H
 have Ny248 := Aside0.mk hy248
 clear hy248
 replace H := Option.bind_eq_some_iff.mp H
 obtain ⟨⟨t251, t252, t253⟩, A20, H⟩ := H
 replace H : ((spec_l1Cur_ratio.f l0 t252 t253).bind fun bt254 => (some (t251, bt254.1, bt254.2.1))) = some (r1, r2, r3) := H
 have A2 := Aside0.mk A20
 clear A20
 replace H := Option.bind_eq_some_iff.mp H
 obtain ⟨⟨t254, t255, t256, t257⟩, A30, H⟩ := H
 replace H : (some (t251, t254, t255)) = some (r1, r2, r3) := H
 have A3 := Aside0.mk A30
 clear A30
 simp only [Option.some.injEq, Prod.mk.injEq] at H
 obtain ⟨rfl, rfl, rfl⟩ := H
 go_enter Try.func35, Try.ntmps35
 go_wp2_with (first | ((with_reducible refine gate_dst (N := 3) rfl ?_); refine box_event ?hg (N := 3) ?hd (cs := #[.int .i64 0, .int .i64 0]) (t := 43) ?hr ?_; (case hd => rfl); (case hg => rfl); (case hr => first | (go_simp; done) | (go_simp; rfl)); intro gb246 hg w4 hbox hb; have n0_ := kH HB hb; have n1_ := Aside0.mk (hbox); have n2_ := kG HB hg; have n3_ := kG HB hg; replace HB := n0_; have BK246 := n1_; have GW246 := n2_; have GE246 := n3_; clear n0_ n1_ n2_ n3_; clear hb hbox hg) | ((with_reducible refine gate_dst (N := 8) rfl ?_); refine box_event ?hg (N := 8) ?hd (cs := #[.slice A0 l0.length c0, .int .i64 0, .int .u64 0]) (t := 79) ?hr ?_; (case hd => rfl); (case hg => rfl); (case hr => first | (go_simp; done) | (go_simp; rfl)); intro gb247 hg w5 hbox hb; have n0_ := kB BK246 hb; have n1_ := kH HB hb; have n2_ := kG HB hg; have n3_ := kG HB hg; have n4_ := kL BK246 hg; have n5_ := kR BK246 hg; have n6_ := Aside0.mk ((⟨_, _, hbox, (by rw [hg]; exact (below_size kO) : w.heap.size ≤ gb247), HR0.out⟩ : IsS79 w w5 gb247 l0 0 0)); replace BK246 := n0_; replace HB := n1_; have GW247 := n2_; have GE247 := n3_; have NB246_247 := n4_; have NB247_246 := n5_; have HI247 := n6_; clear n0_ n1_ n2_ n3_ n4_ n5_ n6_; clear hb hbox hg) | ((with_reducible refine gate_dst (N := 10) rfl ?_); refine Kd.R_lit (Kd.int .i64) _ 3 ?hg (N := 10) ?hd (xs := ([1, 5, 20, 28, (-3), (-10), 0, 120, 121, (-120)] : List Int)) (inner := [.int .i64 1, .int .i64 5, .int .i64 20, .int .i64 28, .int .i64 (-3), .int .i64 (-10), .int .i64 0, .int .i64 120, .int .i64 121, .int .i64 (-120)]) (ok := fun _ => True) (okp := fun _ => True) ?hr ?hp (fun _ hk => hk) trivial (Below.refl _ _) (Nat.le_refl _) (by simp) ?_; (case hd => rfl); (case hg => rfl); (case hr => first | (go_simp; done) | (go_simp; rfl)); (case hp => exact (Reps.one (show Kd.M (Kd.int .i64) _ _ _ 1 [.int .i64 1] from rfl) (Reps.one (show Kd.M (Kd.int .i64) _ _ _ 5 [.int .i64 5] from rfl) (Reps.one (show Kd.M (Kd.int .i64) _ _ _ 20 [.int .i64 20] from rfl) (Reps.one (show Kd.M (Kd.int .i64) _ _ _ 28 [.int .i64 28] from rfl) (Reps.one (show Kd.M (Kd.int .i64) _ _ _ (-3) [.int .i64 (-3)] from rfl) (Reps.one (show Kd.M (Kd.int .i64) _ _ _ (-10) [.int .i64 (-10)] from rfl) (Reps.one (show Kd.M (Kd.int .i64) _ _ _ 0 [.int .i64 0] from rfl) (Reps.one (show Kd.M (Kd.int .i64) _ _ _ 120 [.int .i64 120] from rfl) (Reps.one (show Kd.M (Kd.int .i64) _ _ _ 121 [.int .i64 121] from rfl) (Reps.one (show Kd.M (Kd.int .i64) _ _ _ (-120) [.int .i64 (-120)] from rfl) (Reps.none _ _)))))))))))); intro v249 w6 ho7 hb hg_ hnew_; clear hg_ hnew_; (first | rw [← Ny248.out] at ho7 | (simp only [Int.reduceToNat] at ho7; rw [← Ny248.out] at ho7)); have n0_ := Aside0.mk (Kd.R_lower ho7 (below_size (by repeat (first | (with_reducible first | exact HB.out | apply below_alloc | apply pw_below_drewN | apply below_drew1 | refine below_set ?_ (IsS79.ge HI247.out) | refine below_set ?_ GE246.out) | exact HB.out)))); have n1_ := kB BK246 hb; have n2_ := Aside0.mk (IsS79.below (by repeat (first | (with_reducible first | exact HI247.out | apply IsS79.alloc | apply IsS79.drewN | apply IsS79.drew | apply IsS79.set_1 | apply IsS79.set_2 | refine IsS79.far ?_ NB247_246.out _) | exact HI247.out)) hb); have n3_ := Aside0.mk (below_step (by repeat (first | (with_reducible first | exact HB.out | apply below_alloc | apply pw_below_drewN | apply below_drew1 | refine below_set ?_ (IsS79.ge HI247.out) | refine below_set ?_ GE246.out) | exact HB.out)) hb); clear BK246; clear HI247; clear HB; have HO250 := n0_; have BK246 := n1_; have HI247 := n2_; have HB := n3_; clear n0_ n1_ n2_ n3_; clear hb ho7; obtain ⟨Ao8, co8, eo8⟩ := Kd.R_slice HO250.out; subst eo8) | ((with_reducible refine gate_callee (f := 79) rfl ?_); refine kE (some 11) Try.func79 #[.pointer (some ⟨gb247, 0, none⟩), .slice Ao8 y248.length co8] rfl ?_; (with_reducible refine (spec_l1Cur_among.calls gb247 l0 0 0 _ _ y248 t251 t252 t253 w _ ?side1 ?side2 ?side3 ?side4 ?side5 A2.out).mono ?_); (case side1 => repeat (first | (with_reducible first | exact HI247.out | apply IsS79.alloc | apply IsS79.drewN | apply IsS79.drew | apply IsS79.set_1 | apply IsS79.set_2 | refine IsS79.far ?_ NB247_246.out _) | exact HI247.out)); (case side2 => repeat (first | (with_reducible first | exact HB.out | apply below_alloc | apply pw_below_drewN | apply below_drew1 | refine below_set ?_ (IsS79.ge HI247.out) | refine below_set ?_ GE246.out) | exact HB.out)); (case side3 => repeat (first | exact (Kd.R_reads' HO250.out).2.2 | (with_reducible refine Kd.C_alloc ?_ _) | (with_reducible refine Kd.C_drewN ?_ _) | (with_reducible refine Kd.C_drew ?_))); (case side4 => exact (Kd.R_reads' HO250.out).2.1); (case side5 => exact far_slice (IsS79.own_ne HI247.out HO250.out (by decide))); rintro e w9 ⟨rfl, hi, hb, hk⟩; refine ⟨_, rfl, ?_⟩; have n0_ := Aside0.mk (KeepBut.blk hk (g' := gb246) (o := .cells #[.int .i64 0, .int .i64 0] 43 (0, 0)) kC NB246_247.out (by simp)); have n1_ := Aside0.mk (Kd.R_mono (Kd.R_keep (IsS79.apart (show IsS79 w _ gb247 l0 0 0 from by repeat (first | (with_reducible first | exact HI247.out | apply IsS79.alloc | apply IsS79.drewN | apply IsS79.drew | apply IsS79.set_1 | apply IsS79.set_2 | refine IsS79.far ?_ NB247_246.out _) | exact HI247.out)) (by (with_reducible repeat (first | apply Kd.R_alloc | apply Kd.R_drewN | apply Kd.R_drew)); exact HO250.out) (by decide)) hk (fun _ h => h.2)) (fun _ h => h.1)); have n2_ := Aside0.mk (hb); have n3_ := Aside0.mk (hi); clear BK246; clear HO250; clear HB; clear HI247; have BK246 := n0_; have HO250 := n1_; have HB := n2_; have HI247 := n3_; clear n0_ n1_ n2_ n3_; (try clear hb); (try clear hk); (try clear hi)) | ((with_reducible refine gate_callee (f := 70) rfl ?_); refine kE (some 14) Try.func70 #[.pointer (some ⟨gb247, 0, none⟩)] rfl ?_; (with_reducible refine (spec_l1Cur_ratio.calls gb247 l0 t252 t253 t254 t255 t256 t257 w _ ?side1 ?side2 A3.out).mono ?_); (case side1 => repeat (first | (with_reducible first | exact HI247.out | apply IsS79.alloc | apply IsS79.drewN | apply IsS79.drew | apply IsS79.set_1 | apply IsS79.set_2 | refine IsS79.far ?_ NB247_246.out _) | exact HI247.out)); (case side2 => repeat (first | (with_reducible first | exact HB.out | apply below_alloc | apply pw_below_drewN | apply below_drew1 | refine below_set ?_ (IsS79.ge HI247.out) | refine below_set ?_ GE246.out) | exact HB.out)); rintro e w10 ⟨rfl, hi, hb, hk⟩; refine ⟨_, rfl, ?_⟩; have n0_ := Aside0.mk (KeepBut.blk hk (g' := gb246) (o := .cells #[.int .i64 0, .int .i64 0] 43 (0, 0)) kC NB246_247.out (by simp)); have n1_ := Aside0.mk (Kd.R_mono (Kd.R_keep (IsS79.apart (show IsS79 w _ gb247 l0 t252 t253 from by repeat (first | (with_reducible first | exact HI247.out | apply IsS79.alloc | apply IsS79.drewN | apply IsS79.drew | apply IsS79.set_1 | apply IsS79.set_2 | refine IsS79.far ?_ NB247_246.out _) | exact HI247.out)) (by (with_reducible repeat (first | apply Kd.R_alloc | apply Kd.R_drewN | apply Kd.R_drew)); exact HO250.out) (by decide)) hk (fun _ h => h.2)) (fun _ h => h.1)); have n2_ := Aside0.mk (hb); have n3_ := Aside0.mk (hi); clear BK246; clear HO250; clear HB; clear HI247; have BK246 := n0_; have HO250 := n1_; have HB := n2_; have HI247 := n3_; clear n0_ n1_ n2_ n3_; (try clear hb); (try clear hk); (try clear hi); have hnb11 := NB246_247.out; have hnc11 := NB247_246.out; have hcz12_0 : w10.cell? ⟨gb246, 0, none⟩ = some (.int .i64 0) := (blk_cell BK246.out 0).trans rfl; have hcz12_1 : w10.cell? ⟨gb246, 1, none⟩ = some (.int .i64 0) := (blk_cell BK246.out 1).trans rfl; have hfz12_0 := blk_frozen BK246.out 0; have hfz12_1 := blk_frozen BK246.out 1))
 refine bodyPost_ret (results_tc rfl _ _ gb246 43 #[.int .i64 t254, .int .i64 t255] (0, 0) _ rfl (by (with_reducible repeat (first | refine blk_drewN ?_ _ | refine blk_drew ?_ | refine blk_alloc ?_ _)); refine blk_put (cs := #[.int .i64 t254, .int .i64 0]) ?_ 1 _ rfl; (with_reducible repeat (first | refine blk_drewN ?_ _ | refine blk_drew ?_ | refine blk_alloc ?_ _)); refine blk_put (cs := #[.int .i64 0, .int .i64 0]) ?_ 0 _ rfl; (with_reducible repeat (first | refine blk_drewN ?_ _ | refine blk_drew ?_ | refine blk_alloc ?_ _)); exact BK246.out) Try.underlying43 rfl (by kernel_rfl)) rfl ?_
 exact ⟨by first | rfl | (simp [errW_none, errW_some] <;> rfl) | (simp [*, errW_none, errW_some] <;> rfl), by repeat (first | (with_reducible first | exact HB.out | apply below_alloc | apply pw_below_drewN | apply below_drew1 | refine below_set ?_ (IsS79.ge HI247.out) | refine below_set ?_ GE246.out) | exact HB.out)⟩

/-! ### impl_AgesFromGap: function 36 -/
def impl_AgesFromGap.f (k : Nat) (a0 : Int) (a1_0 : Int) (a1_1 : Int) : Option (Int × Int × Int × Bool) := (impl_between.f a0 (-120) 120).bind fun t259 => (if t259 = true then ((impl_IsRatio.f a1_0 a1_1).bind fun t260 => (if t260 = true then (if (wrap64 (a0 * (wrap64 (a1_0 - a1_1)))) ≤ 0 then (some (0, 0, 0, false)) else ((impl_twoAges.f k (wrap64 (a0 * a1_0)) (wrap64 (a1_0 - a1_1)) (wrap64 (a0 * a1_1)) (wrap64 (a1_0 - a1_1))).bind fun bt261 => (some (bt261.1, bt261.2.1, bt261.2.2, true)))) else (some (0, 0, 0, false)))) else (some (0, 0, 0, false)))
set_option maxHeartbeats 8000000 in
set_option maxRecDepth 100000 in
theorem impl_AgesFromGap.calls (k : Nat) (a0 : Int) (a1_0 : Int) (a1_1 : Int) (r1 : Int) (r2 : Int) (r3 : Int) (r4 : Bool) (w : World) (h : impl_AgesFromGap.f k a0 a1_0 a1_1 = some (r1, r2, r3, r4)) :
  Calls Try.prog 36 #[.int .i64 a0, .agg #[.int .i64 a1_0, .int .i64 a1_1]] w fun e w' => e = .returned (.tuple #[.int .i64 r1, .int .i64 r2, .int .i64 r3, .bool r4]) ∧ Below w.heap.size w w' := by
 have hu43 := Try.underlying43
 have HB := Aside0.mk (Below.refl w.heap.size w)
 have H : ((impl_between.f a0 (-120) 120).bind fun t259 => (if t259 = true then ((impl_IsRatio.f a1_0 a1_1).bind fun t260 => (if t260 = true then (if (wrap64 (a0 * (wrap64 (a1_0 - a1_1)))) ≤ 0 then (some (0, 0, 0, false)) else ((impl_twoAges.f k (wrap64 (a0 * a1_0)) (wrap64 (a1_0 - a1_1)) (wrap64 (a0 * a1_1)) (wrap64 (a1_0 - a1_1))).bind fun bt261 => (some (bt261.1, bt261.2.1, bt261.2.2, true)))) else (some (0, 0, 0, false)))) else (some (0, 0, 0, false)))) = some (r1, r2, r3, r4) := h
 clear h
 replace H := Option.bind_eq_some_iff.mp H
 obtain ⟨t259, A30, H⟩ := H
 replace H : (if t259 = true then ((impl_IsRatio.f a1_0 a1_1).bind fun t260 => (if t260 = true then (if (wrap64 (a0 * (wrap64 (a1_0 - a1_1)))) ≤ 0 then (some (0, 0, 0, false)) else ((impl_twoAges.f k (wrap64 (a0 * a1_0)) (wrap64 (a1_0 - a1_1)) (wrap64 (a0 * a1_1)) (wrap64 (a1_0 - a1_1))).bind fun bt261 => (some (bt261.1, bt261.2.1, bt261.2.2, true)))) else (some (0, 0, 0, false)))) else (some (0, 0, 0, false))) = some (r1, r2, r3, r4) := H
 have A3 := Aside0.mk A30
 clear A30
 by_cases c4 : t259 = true
 ·subst c4
  have H1 : ((impl_IsRatio.f a1_0 a1_1).bind fun t260 => (if t260 = true then (if (wrap64 (a0 * (wrap64 (a1_0 - a1_1)))) ≤ 0 then (some (0, 0, 0, false)) else ((impl_twoAges.f k (wrap64 (a0 * a1_0)) (wrap64 (a1_0 - a1_1)) (wrap64 (a0 * a1_1)) (wrap64 (a1_0 - a1_1))).bind fun bt261 => (some (bt261.1, bt261.2.1, bt261.2.2, true)))) else (some (0, 0, 0, false)))) = some (r1, r2, r3, r4) := by rw [if_pos rfl] at H; exact H
  clear H
  have H := H1
  clear H1
  replace H := Option.bind_eq_some_iff.mp H
  obtain ⟨t260, A50, H⟩ := H
  replace H : (if t260 = true then (if (wrap64 (a0 * (wrap64 (a1_0 - a1_1)))) ≤ 0 then (some (0, 0, 0, false)) else ((impl_twoAges.f k (wrap64 (a0 * a1_0)) (wrap64 (a1_0 - a1_1)) (wrap64 (a0 * a1_1)) (wrap64 (a1_0 - a1_1))).bind fun bt261 => (some (bt261.1, bt261.2.1, bt261.2.2, true)))) else (some (0, 0, 0, false))) = some (r1, r2, r3, r4) := H
  have A5 := Aside0.mk A50
  clear A50
  by_cases c6 : t260 = true
  ·subst c6
   have H1 : (if (wrap64 (a0 * (wrap64 (a1_0 - a1_1)))) ≤ 0 then (some (0, 0, 0, false)) else ((impl_twoAges.f k (wrap64 (a0 * a1_0)) (wrap64 (a1_0 - a1_1)) (wrap64 (a0 * a1_1)) (wrap64 (a1_0 - a1_1))).bind fun bt261 => (some (bt261.1, bt261.2.1, bt261.2.2, true)))) = some (r1, r2, r3, r4) := by rw [if_pos rfl] at H; exact H
   clear H
   have H := H1
   clear H1
   by_cases c7 : (wrap64 (a0 * (wrap64 (a1_0 - a1_1)))) ≤ 0
   ·rw [if_pos c7] at H
    have c7b0 : decide ((wrap64 (a0 * (wrap64 (a1_0 - a1_1)))) ≤ 0) = true := decide_eq_true c7
    clear c7
    simp only [Option.some.injEq, Prod.mk.injEq] at H
    obtain ⟨rfl, rfl, rfl, rfl⟩ := H
    go_enter Try.func36, Try.ntmps36
    go_wp2_with (first | ((with_reducible refine gate_dst (N := 3) rfl ?_); refine box_event ?hg (N := 3) ?hd (cs := #[.int .i64 a1_0, .int .i64 a1_1]) (t := 43) ?hr ?_; (case hd => rfl); (case hg => rfl); (case hr => first | (go_simp; done) | (go_simp; rfl)); intro gb258 hg w8 hbox hb; have n0_ := kH HB hb; have n1_ := Aside0.mk (hbox); have n2_ := kG HB hg; have n3_ := kG HB hg; replace HB := n0_; have BK258 := n1_; have GW258 := n2_; have GE258 := n3_; clear n0_ n1_ n2_ n3_; clear hb hbox hg) | ((with_reducible refine gate_callee (f := 57) rfl ?_); refine kE (some 12) Try.func57 #[.int .i64 a0, .int .i64 (-120), .int .i64 120] rfl ?_; (with_reducible refine (impl_between.calls a0 (-120) 120 true _ A3.out).mono ?_); rintro e w' ⟨rfl, ⟨nd, rfl⟩⟩; refine ⟨_, rfl, ?_⟩; have hcz9_0 : w8.cell? ⟨gb258, 0, none⟩ = some (.int .i64 a1_0) := (blk_cell BK258.out 0).trans rfl; have hcz9_1 : w8.cell? ⟨gb258, 1, none⟩ = some (.int .i64 a1_1) := (blk_cell BK258.out 1).trans rfl; have hfz9_0 := blk_frozen BK258.out 0; have hfz9_1 := blk_frozen BK258.out 1) | (go_at_call 49; (with_reducible refine (impl_IsRatio.calls a1_0 a1_1 true _ A5.out).mono ?_); rintro e w10 ⟨rfl, hb⟩; have n0_ := kB BK258 hb; have n1_ := kH HB hb; replace BK258 := n0_; replace HB := n1_; clear n0_ n1_; (try clear hb); have hcz11_0 : w10.cell? ⟨gb258, 0, none⟩ = some (.int .i64 a1_0) := (blk_cell BK258.out 0).trans rfl; have hcz11_1 : w10.cell? ⟨gb258, 1, none⟩ = some (.int .i64 a1_1) := (blk_cell BK258.out 1).trans rfl; have hfz11_0 := blk_frozen BK258.out 0; have hfz11_1 := blk_frozen BK258.out 1))
    refine bodyPost_ret (results_list (rs := [.tmp 4, .tmp 5, .tmp 6, .tmp 7]) rfl (by simp) (.tmp (.tmp (.tmp (.tmp .nil))))) rfl ?_
    exact ⟨by first | rfl | (simp [errW_none, errW_some] <;> rfl) | (simp [*, errW_none, errW_some] <;> rfl), kO⟩
   ·rw [if_neg c7] at H
    have c7b0 : decide ((wrap64 (a0 * (wrap64 (a1_0 - a1_1)))) ≤ 0) = false := decide_eq_false c7
    clear c7
    replace H := Option.bind_eq_some_iff.mp H
    obtain ⟨⟨t261, t262, t263⟩, A120, H⟩ := H
    replace H : (some (t261, t262, t263, true)) = some (r1, r2, r3, r4) := H
    have A12 := Aside0.mk A120
    clear A120
    simp only [Option.some.injEq, Prod.mk.injEq] at H
    obtain ⟨rfl, rfl, rfl, rfl⟩ := H
    go_enter Try.func36, Try.ntmps36
    go_wp2_with (first | ((with_reducible refine gate_dst (N := 3) rfl ?_); refine box_event ?hg (N := 3) ?hd (cs := #[.int .i64 a1_0, .int .i64 a1_1]) (t := 43) ?hr ?_; (case hd => rfl); (case hg => rfl); (case hr => first | (go_simp; done) | (go_simp; rfl)); intro gb258 hg w13 hbox hb; have n0_ := kH HB hb; have n1_ := Aside0.mk (hbox); have n2_ := kG HB hg; have n3_ := kG HB hg; replace HB := n0_; have BK258 := n1_; have GW258 := n2_; have GE258 := n3_; clear n0_ n1_ n2_ n3_; clear hb hbox hg) | ((with_reducible refine gate_callee (f := 57) rfl ?_); refine kE (some 12) Try.func57 #[.int .i64 a0, .int .i64 (-120), .int .i64 120] rfl ?_; (with_reducible refine (impl_between.calls a0 (-120) 120 true _ A3.out).mono ?_); rintro e w' ⟨rfl, ⟨nd, rfl⟩⟩; refine ⟨_, rfl, ?_⟩; have hcz14_0 : w13.cell? ⟨gb258, 0, none⟩ = some (.int .i64 a1_0) := (blk_cell BK258.out 0).trans rfl; have hcz14_1 : w13.cell? ⟨gb258, 1, none⟩ = some (.int .i64 a1_1) := (blk_cell BK258.out 1).trans rfl; have hfz14_0 := blk_frozen BK258.out 0; have hfz14_1 := blk_frozen BK258.out 1) | (go_at_call 49; (with_reducible refine (impl_IsRatio.calls a1_0 a1_1 true _ A5.out).mono ?_); rintro e w15 ⟨rfl, hb⟩; have n0_ := kB BK258 hb; have n1_ := kH HB hb; replace BK258 := n0_; replace HB := n1_; clear n0_ n1_; (try clear hb); have hcz16_0 : w15.cell? ⟨gb258, 0, none⟩ = some (.int .i64 a1_0) := (blk_cell BK258.out 0).trans rfl; have hcz16_1 : w15.cell? ⟨gb258, 1, none⟩ = some (.int .i64 a1_1) := (blk_cell BK258.out 1).trans rfl; have hfz16_0 := blk_frozen BK258.out 0; have hfz16_1 := blk_frozen BK258.out 1) | ((with_reducible refine gate_callee (f := 80) rfl ?_); refine kE (some 48) Try.func80 #[.int .i64 (wrap64 (a0 * a1_0)), .int .i64 (wrap64 (a1_0 - a1_1)), .int .i64 (wrap64 (a0 * a1_1)), .int .i64 (wrap64 (a1_0 - a1_1))] rfl ?_; (with_reducible refine (impl_twoAges.calls k (wrap64 (a0 * a1_0)) (wrap64 (a1_0 - a1_1)) (wrap64 (a0 * a1_1)) (wrap64 (a1_0 - a1_1)) t261 t262 t263 _ A12.out).mono ?_); rintro e w17 ⟨rfl, hb⟩; refine ⟨_, rfl, ?_⟩; have n0_ := kB BK258 hb; have n1_ := kH HB hb; replace BK258 := n0_; replace HB := n1_; clear n0_ n1_; (try clear hb)))
    refine bodyPost_ret (results_list (rs := [.tmp 4, .tmp 5, .tmp 6, .tmp 7]) rfl (by simp) (.tmp (.tmp (.tmp (.tmp .nil))))) rfl ?_
    exact ⟨by first | rfl | (simp [errW_none, errW_some] <;> rfl) | (simp [*, errW_none, errW_some] <;> rfl), kO⟩
  ·replace c6 := Bool.eq_false_iff.mpr c6
   subst c6
   have H1 : (some (0, 0, 0, false)) = some (r1, r2, r3, r4) := by rw [if_neg (show ¬ (false = true) by decide)] at H; exact H
   clear H
   have H := H1
   clear H1
   simp only [Option.some.injEq, Prod.mk.injEq] at H
   obtain ⟨rfl, rfl, rfl, rfl⟩ := H
   go_enter Try.func36, Try.ntmps36
   go_wp2_with (first | ((with_reducible refine gate_dst (N := 3) rfl ?_); refine box_event ?hg (N := 3) ?hd (cs := #[.int .i64 a1_0, .int .i64 a1_1]) (t := 43) ?hr ?_; (case hd => rfl); (case hg => rfl); (case hr => first | (go_simp; done) | (go_simp; rfl)); intro gb258 hg w18 hbox hb; have n0_ := kH HB hb; have n1_ := Aside0.mk (hbox); have n2_ := kG HB hg; have n3_ := kG HB hg; replace HB := n0_; have BK258 := n1_; have GW258 := n2_; have GE258 := n3_; clear n0_ n1_ n2_ n3_; clear hb hbox hg) | ((with_reducible refine gate_callee (f := 57) rfl ?_); refine kE (some 12) Try.func57 #[.int .i64 a0, .int .i64 (-120), .int .i64 120] rfl ?_; (with_reducible refine (impl_between.calls a0 (-120) 120 true _ A3.out).mono ?_); rintro e w' ⟨rfl, ⟨nd, rfl⟩⟩; refine ⟨_, rfl, ?_⟩; have hcz19_0 : w18.cell? ⟨gb258, 0, none⟩ = some (.int .i64 a1_0) := (blk_cell BK258.out 0).trans rfl; have hcz19_1 : w18.cell? ⟨gb258, 1, none⟩ = some (.int .i64 a1_1) := (blk_cell BK258.out 1).trans rfl; have hfz19_0 := blk_frozen BK258.out 0; have hfz19_1 := blk_frozen BK258.out 1) | (go_at_call 49; (with_reducible refine (impl_IsRatio.calls a1_0 a1_1 false _ A5.out).mono ?_); rintro e w20 ⟨rfl, hb⟩; have n0_ := kB BK258 hb; have n1_ := kH HB hb; replace BK258 := n0_; replace HB := n1_; clear n0_ n1_; (try clear hb)))
   refine bodyPost_ret (results_list (rs := [.tmp 4, .tmp 5, .tmp 6, .tmp 7]) rfl (by simp) (.tmp (.tmp (.tmp (.tmp .nil))))) rfl ?_
   exact ⟨by first | rfl | (simp [errW_none, errW_some] <;> rfl) | (simp [*, errW_none, errW_some] <;> rfl), kO⟩
 ·replace c4 := Bool.eq_false_iff.mpr c4
  subst c4
  have H1 : (some (0, 0, 0, false)) = some (r1, r2, r3, r4) := by rw [if_neg (show ¬ (false = true) by decide)] at H; exact H
  clear H
  have H := H1
  clear H1
  simp only [Option.some.injEq, Prod.mk.injEq] at H
  obtain ⟨rfl, rfl, rfl, rfl⟩ := H
  go_enter Try.func36, Try.ntmps36
  go_wp2_with (first | ((with_reducible refine gate_dst (N := 3) rfl ?_); refine box_event ?hg (N := 3) ?hd (cs := #[.int .i64 a1_0, .int .i64 a1_1]) (t := 43) ?hr ?_; (case hd => rfl); (case hg => rfl); (case hr => first | (go_simp; done) | (go_simp; rfl)); intro gb258 hg w21 hbox hb; have n0_ := kH HB hb; have n1_ := Aside0.mk (hbox); have n2_ := kG HB hg; have n3_ := kG HB hg; replace HB := n0_; have BK258 := n1_; have GW258 := n2_; have GE258 := n3_; clear n0_ n1_ n2_ n3_; clear hb hbox hg) | ((with_reducible refine gate_callee (f := 57) rfl ?_); refine kE (some 12) Try.func57 #[.int .i64 a0, .int .i64 (-120), .int .i64 120] rfl ?_; (with_reducible refine (impl_between.calls a0 (-120) 120 false _ A3.out).mono ?_); rintro e w' ⟨rfl, ⟨nd, rfl⟩⟩; refine ⟨_, rfl, ?_⟩))
  refine bodyPost_ret (results_list (rs := [.tmp 4, .tmp 5, .tmp 6, .tmp 7]) rfl (by simp) (.tmp (.tmp (.tmp (.tmp .nil))))) rfl ?_
  exact ⟨by first | rfl | (simp [errW_none, errW_some] <;> rfl) | (simp [*, errW_none, errW_some] <;> rfl), kO⟩

/-! ### spec_AgesFromGap: function 37 -/
def spec_AgesFromGap.f (k : Nat) (a0 : Int) (a1_0 : Int) (a1_1 : Int) : Option (Int × Int × Int × Bool) := (spec_l1In.f a0 (-120) 120).bind fun t265 => (if t265 = true then (if a0 = 0 then (some (0, 0, 0, false)) else ((spec_raGood.f a1_0 a1_1).bind fun t266 => (if t266 = true then (if (wrap64 ((wrap64 (a1_0 - a1_1)) * a0)) ≤ 0 then (some (0, 0, 0, false)) else ((spec_raThree.f k (wrap64 (a0 * a1_0)) (wrap64 (a0 * a1_1)) (wrap64 (a1_0 - a1_1))).bind fun bt267 => (some (bt267.1, bt267.2.1, bt267.2.2, true)))) else (some (0, 0, 0, false))))) else (some (0, 0, 0, false)))
set_option maxHeartbeats 8000000 in
set_option maxRecDepth 100000 in
theorem spec_AgesFromGap.calls (k : Nat) (a0 : Int) (a1_0 : Int) (a1_1 : Int) (r1 : Int) (r2 : Int) (r3 : Int) (r4 : Bool) (w : World) (h : spec_AgesFromGap.f k a0 a1_0 a1_1 = some (r1, r2, r3, r4)) :
  Calls Try.prog 37 #[.int .i64 a0, .agg #[.int .i64 a1_0, .int .i64 a1_1]] w fun e w' => e = .returned (.tuple #[.int .i64 r1, .int .i64 r2, .int .i64 r3, .bool r4]) ∧ Below w.heap.size w w' := by
 have hu43 := Try.underlying43
 have HB := Aside0.mk (Below.refl w.heap.size w)
 have H : ((spec_l1In.f a0 (-120) 120).bind fun t265 => (if t265 = true then (if a0 = 0 then (some (0, 0, 0, false)) else ((spec_raGood.f a1_0 a1_1).bind fun t266 => (if t266 = true then (if (wrap64 ((wrap64 (a1_0 - a1_1)) * a0)) ≤ 0 then (some (0, 0, 0, false)) else ((spec_raThree.f k (wrap64 (a0 * a1_0)) (wrap64 (a0 * a1_1)) (wrap64 (a1_0 - a1_1))).bind fun bt267 => (some (bt267.1, bt267.2.1, bt267.2.2, true)))) else (some (0, 0, 0, false))))) else (some (0, 0, 0, false)))) = some (r1, r2, r3, r4) := h
 clear h
 replace H := Option.bind_eq_some_iff.mp H
 obtain ⟨t265, A30, H⟩ := H
 replace H : (if t265 = true then (if a0 = 0 then (some (0, 0, 0, false)) else ((spec_raGood.f a1_0 a1_1).bind fun t266 => (if t266 = true then (if (wrap64 ((wrap64 (a1_0 - a1_1)) * a0)) ≤ 0 then (some (0, 0, 0, false)) else ((spec_raThree.f k (wrap64 (a0 * a1_0)) (wrap64 (a0 * a1_1)) (wrap64 (a1_0 - a1_1))).bind fun bt267 => (some (bt267.1, bt267.2.1, bt267.2.2, true)))) else (some (0, 0, 0, false))))) else (some (0, 0, 0, false))) = some (r1, r2, r3, r4) := H
 have A3 := Aside0.mk A30
 clear A30
 by_cases c4 : t265 = true
 ·subst c4
  have H1 : (if a0 = 0 then (some (0, 0, 0, false)) else ((spec_raGood.f a1_0 a1_1).bind fun t266 => (if t266 = true then (if (wrap64 ((wrap64 (a1_0 - a1_1)) * a0)) ≤ 0 then (some (0, 0, 0, false)) else ((spec_raThree.f k (wrap64 (a0 * a1_0)) (wrap64 (a0 * a1_1)) (wrap64 (a1_0 - a1_1))).bind fun bt267 => (some (bt267.1, bt267.2.1, bt267.2.2, true)))) else (some (0, 0, 0, false))))) = some (r1, r2, r3, r4) := by rw [if_pos rfl] at H; exact H
  clear H
  have H := H1
  clear H1
  by_cases c5 : a0 = 0
  ·rw [if_pos c5] at H
   have c5b0 : (a0 == 0) = true := beq_iff_eq.mpr c5
   have c5b1 : (a0 != 0) = false := bne_eq_false_iff_eq.mpr c5
   clear c5
   simp only [Option.some.injEq, Prod.mk.injEq] at H
   obtain ⟨rfl, rfl, rfl, rfl⟩ := H
   go_enter Try.func37, Try.ntmps37
   go_wp2_with (first | ((with_reducible refine gate_dst (N := 3) rfl ?_); refine box_event ?hg (N := 3) ?hd (cs := #[.int .i64 a1_0, .int .i64 a1_1]) (t := 43) ?hr ?_; (case hd => rfl); (case hg => rfl); (case hr => first | (go_simp; done) | (go_simp; rfl)); intro gb264 hg w6 hbox hb; have n0_ := kH HB hb; have n1_ := Aside0.mk (hbox); have n2_ := kG HB hg; have n3_ := kG HB hg; replace HB := n0_; have BK264 := n1_; have GW264 := n2_; have GE264 := n3_; clear n0_ n1_ n2_ n3_; clear hb hbox hg) | ((with_reducible refine gate_callee (f := 52) rfl ?_); refine kE (some 12) Try.func52 #[.int .i64 a0, .int .i64 (-120), .int .i64 120] rfl ?_; (with_reducible refine (spec_l1In.calls a0 (-120) 120 true _ A3.out).mono ?_); rintro e w' ⟨rfl, ⟨nd, rfl⟩⟩; refine ⟨_, rfl, ?_⟩))
   refine bodyPost_ret (results_list (rs := [.tmp 4, .tmp 5, .tmp 6, .tmp 7]) rfl (by simp) (.tmp (.tmp (.tmp (.tmp .nil))))) rfl ?_
   exact ⟨by first | rfl | (simp [errW_none, errW_some] <;> rfl) | (simp [*, errW_none, errW_some] <;> rfl), kO⟩
  ·rw [if_neg c5] at H
   have c5b0 : (a0 == 0) = false := beq_eq_false_iff_ne.mpr c5
   have c5b1 : (a0 != 0) = true := bne_iff_ne.mpr c5
   replace H := Option.bind_eq_some_iff.mp H
   obtain ⟨t266, A70, H⟩ := H
   replace H : (if t266 = true then (if (wrap64 ((wrap64 (a1_0 - a1_1)) * a0)) ≤ 0 then (some (0, 0, 0, false)) else ((spec_raThree.f k (wrap64 (a0 * a1_0)) (wrap64 (a0 * a1_1)) (wrap64 (a1_0 - a1_1))).bind fun bt267 => (some (bt267.1, bt267.2.1, bt267.2.2, true)))) else (some (0, 0, 0, false))) = some (r1, r2, r3, r4) := H
   have A7 := Aside0.mk A70
   clear A70
   by_cases c8 : t266 = true
   ·subst c8
    have H1 : (if (wrap64 ((wrap64 (a1_0 - a1_1)) * a0)) ≤ 0 then (some (0, 0, 0, false)) else ((spec_raThree.f k (wrap64 (a0 * a1_0)) (wrap64 (a0 * a1_1)) (wrap64 (a1_0 - a1_1))).bind fun bt267 => (some (bt267.1, bt267.2.1, bt267.2.2, true)))) = some (r1, r2, r3, r4) := by rw [if_pos rfl] at H; exact H
    clear H
    have H := H1
    clear H1
    by_cases c9 : (wrap64 ((wrap64 (a1_0 - a1_1)) * a0)) ≤ 0
    ·rw [if_pos c9] at H
     have c9b0 : decide ((wrap64 ((wrap64 (a1_0 - a1_1)) * a0)) ≤ 0) = true := decide_eq_true c9
     clear c9
     simp only [Option.some.injEq, Prod.mk.injEq] at H
     obtain ⟨rfl, rfl, rfl, rfl⟩ := H
     go_enter Try.func37, Try.ntmps37
     go_wp2_with (first | ((with_reducible refine gate_dst (N := 3) rfl ?_); refine box_event ?hg (N := 3) ?hd (cs := #[.int .i64 a1_0, .int .i64 a1_1]) (t := 43) ?hr ?_; (case hd => rfl); (case hg => rfl); (case hr => first | (go_simp; done) | (go_simp; rfl)); intro gb264 hg w10 hbox hb; have n0_ := kH HB hb; have n1_ := Aside0.mk (hbox); have n2_ := kG HB hg; have n3_ := kG HB hg; replace HB := n0_; have BK264 := n1_; have GW264 := n2_; have GE264 := n3_; clear n0_ n1_ n2_ n3_; clear hb hbox hg) | ((with_reducible refine gate_callee (f := 52) rfl ?_); refine kE (some 12) Try.func52 #[.int .i64 a0, .int .i64 (-120), .int .i64 120] rfl ?_; (with_reducible refine (spec_l1In.calls a0 (-120) 120 true _ A3.out).mono ?_); rintro e w' ⟨rfl, ⟨nd, rfl⟩⟩; refine ⟨_, rfl, ?_⟩; have hcz11_0 : w10.cell? ⟨gb264, 0, none⟩ = some (.int .i64 a1_0) := (blk_cell BK264.out 0).trans rfl; have hcz11_1 : w10.cell? ⟨gb264, 1, none⟩ = some (.int .i64 a1_1) := (blk_cell BK264.out 1).trans rfl; have hfz11_0 := blk_frozen BK264.out 0; have hfz11_1 := blk_frozen BK264.out 1) | (go_at_call 74; (with_reducible refine (spec_raGood.calls a1_0 a1_1 true _ A7.out).mono ?_); rintro e w12 ⟨rfl, hb⟩; have n0_ := kB BK264 hb; have n1_ := kH HB hb; replace BK264 := n0_; replace HB := n1_; clear n0_ n1_; (try clear hb); have hcz13_0 : w12.cell? ⟨gb264, 0, none⟩ = some (.int .i64 a1_0) := (blk_cell BK264.out 0).trans rfl; have hcz13_1 : w12.cell? ⟨gb264, 1, none⟩ = some (.int .i64 a1_1) := (blk_cell BK264.out 1).trans rfl; have hfz13_0 := blk_frozen BK264.out 0; have hfz13_1 := blk_frozen BK264.out 1))
     refine bodyPost_ret (results_list (rs := [.tmp 4, .tmp 5, .tmp 6, .tmp 7]) rfl (by simp) (.tmp (.tmp (.tmp (.tmp .nil))))) rfl ?_
     exact ⟨by first | rfl | (simp [errW_none, errW_some] <;> rfl) | (simp [*, errW_none, errW_some] <;> rfl), kO⟩
    ·rw [if_neg c9] at H
     have c9b0 : decide ((wrap64 ((wrap64 (a1_0 - a1_1)) * a0)) ≤ 0) = false := decide_eq_false c9
     clear c9
     replace H := Option.bind_eq_some_iff.mp H
     obtain ⟨⟨t267, t268, t269⟩, A140, H⟩ := H
     replace H : (some (t267, t268, t269, true)) = some (r1, r2, r3, r4) := H
     have A14 := Aside0.mk A140
     clear A140
     simp only [Option.some.injEq, Prod.mk.injEq] at H
     obtain ⟨rfl, rfl, rfl, rfl⟩ := H
     go_enter Try.func37, Try.ntmps37
     go_wp2_with (first | ((with_reducible refine gate_dst (N := 3) rfl ?_); refine box_event ?hg (N := 3) ?hd (cs := #[.int .i64 a1_0, .int .i64 a1_1]) (t := 43) ?hr ?_; (case hd => rfl); (case hg => rfl); (case hr => first | (go_simp; done) | (go_simp; rfl)); intro gb264 hg w15 hbox hb; have n0_ := kH HB hb; have n1_ := Aside0.mk (hbox); have n2_ := kG HB hg; have n3_ := kG HB hg; replace HB := n0_; have BK264 := n1_; have GW264 := n2_; have GE264 := n3_; clear n0_ n1_ n2_ n3_; clear hb hbox hg) | ((with_reducible refine gate_callee (f := 52) rfl ?_); refine kE (some 12) Try.func52 #[.int .i64 a0, .int .i64 (-120), .int .i64 120] rfl ?_; (with_reducible refine (spec_l1In.calls a0 (-120) 120 true _ A3.out).mono ?_); rintro e w' ⟨rfl, ⟨nd, rfl⟩⟩; refine ⟨_, rfl, ?_⟩; have hcz16_0 : w15.cell? ⟨gb264, 0, none⟩ = some (.int .i64 a1_0) := (blk_cell BK264.out 0).trans rfl; have hcz16_1 : w15.cell? ⟨gb264, 1, none⟩ = some (.int .i64 a1_1) := (blk_cell BK264.out 1).trans rfl; have hfz16_0 := blk_frozen BK264.out 0; have hfz16_1 := blk_frozen BK264.out 1) | (go_at_call 74; (with_reducible refine (spec_raGood.calls a1_0 a1_1 true _ A7.out).mono ?_); rintro e w17 ⟨rfl, hb⟩; have n0_ := kB BK264 hb; have n1_ := kH HB hb; replace BK264 := n0_; replace HB := n1_; clear n0_ n1_; (try clear hb); have hcz18_0 : w17.cell? ⟨gb264, 0, none⟩ = some (.int .i64 a1_0) := (blk_cell BK264.out 0).trans rfl; have hcz18_1 : w17.cell? ⟨gb264, 1, none⟩ = some (.int .i64 a1_1) := (blk_cell BK264.out 1).trans rfl; have hfz18_0 := blk_frozen BK264.out 0; have hfz18_1 := blk_frozen BK264.out 1) | ((with_reducible refine gate_callee (f := 81) rfl ?_); refine kE (some 47) Try.func81 #[.int .i64 (wrap64 (a0 * a1_0)), .int .i64 (wrap64 (a0 * a1_1)), .int .i64 (wrap64 (a1_0 - a1_1))] rfl ?_; (with_reducible refine (spec_raThree.calls k (wrap64 (a0 * a1_0)) (wrap64 (a0 * a1_1)) (wrap64 (a1_0 - a1_1)) t267 t268 t269 _ A14.out).mono ?_); rintro e w' ⟨rfl, ⟨nd, rfl⟩⟩; refine ⟨_, rfl, ?_⟩))
     refine bodyPost_ret (results_list (rs := [.tmp 4, .tmp 5, .tmp 6, .tmp 7]) rfl (by simp) (.tmp (.tmp (.tmp (.tmp .nil))))) rfl ?_
     exact ⟨by first | rfl | (simp [errW_none, errW_some] <;> rfl) | (simp [*, errW_none, errW_some] <;> rfl), kO⟩
   ·replace c8 := Bool.eq_false_iff.mpr c8
    subst c8
    have H1 : (some (0, 0, 0, false)) = some (r1, r2, r3, r4) := by rw [if_neg (show ¬ (false = true) by decide)] at H; exact H
    clear H
    have H := H1
    clear H1
    simp only [Option.some.injEq, Prod.mk.injEq] at H
    obtain ⟨rfl, rfl, rfl, rfl⟩ := H
    go_enter Try.func37, Try.ntmps37
    go_wp2_with (first | ((with_reducible refine gate_dst (N := 3) rfl ?_); refine box_event ?hg (N := 3) ?hd (cs := #[.int .i64 a1_0, .int .i64 a1_1]) (t := 43) ?hr ?_; (case hd => rfl); (case hg => rfl); (case hr => first | (go_simp; done) | (go_simp; rfl)); intro gb264 hg w19 hbox hb; have n0_ := kH HB hb; have n1_ := Aside0.mk (hbox); have n2_ := kG HB hg; have n3_ := kG HB hg; replace HB := n0_; have BK264 := n1_; have GW264 := n2_; have GE264 := n3_; clear n0_ n1_ n2_ n3_; clear hb hbox hg) | ((with_reducible refine gate_callee (f := 52) rfl ?_); refine kE (some 12) Try.func52 #[.int .i64 a0, .int .i64 (-120), .int .i64 120] rfl ?_; (with_reducible refine (spec_l1In.calls a0 (-120) 120 true _ A3.out).mono ?_); rintro e w' ⟨rfl, ⟨nd, rfl⟩⟩; refine ⟨_, rfl, ?_⟩; have hcz20_0 : w19.cell? ⟨gb264, 0, none⟩ = some (.int .i64 a1_0) := (blk_cell BK264.out 0).trans rfl; have hcz20_1 : w19.cell? ⟨gb264, 1, none⟩ = some (.int .i64 a1_1) := (blk_cell BK264.out 1).trans rfl; have hfz20_0 := blk_frozen BK264.out 0; have hfz20_1 := blk_frozen BK264.out 1) | (go_at_call 74; (with_reducible refine (spec_raGood.calls a1_0 a1_1 false _ A7.out).mono ?_); rintro e w21 ⟨rfl, hb⟩; have n0_ := kB BK264 hb; have n1_ := kH HB hb; replace BK264 := n0_; replace HB := n1_; clear n0_ n1_; (try clear hb)))
    refine bodyPost_ret (results_list (rs := [.tmp 4, .tmp 5, .tmp 6, .tmp 7]) rfl (by simp) (.tmp (.tmp (.tmp (.tmp .nil))))) rfl ?_
    exact ⟨by first | rfl | (simp [errW_none, errW_some] <;> rfl) | (simp [*, errW_none, errW_some] <;> rfl), kO⟩
 ·replace c4 := Bool.eq_false_iff.mpr c4
  subst c4
  have H1 : (some (0, 0, 0, false)) = some (r1, r2, r3, r4) := by rw [if_neg (show ¬ (false = true) by decide)] at H; exact H
  clear H
  have H := H1
  clear H1
  simp only [Option.some.injEq, Prod.mk.injEq] at H
  obtain ⟨rfl, rfl, rfl, rfl⟩ := H
  go_enter Try.func37, Try.ntmps37
  go_wp2_with (first | ((with_reducible refine gate_dst (N := 3) rfl ?_); refine box_event ?hg (N := 3) ?hd (cs := #[.int .i64 a1_0, .int .i64 a1_1]) (t := 43) ?hr ?_; (case hd => rfl); (case hg => rfl); (case hr => first | (go_simp; done) | (go_simp; rfl)); intro gb264 hg w22 hbox hb; have n0_ := kH HB hb; have n1_ := Aside0.mk (hbox); have n2_ := kG HB hg; have n3_ := kG HB hg; replace HB := n0_; have BK264 := n1_; have GW264 := n2_; have GE264 := n3_; clear n0_ n1_ n2_ n3_; clear hb hbox hg) | ((with_reducible refine gate_callee (f := 52) rfl ?_); refine kE (some 12) Try.func52 #[.int .i64 a0, .int .i64 (-120), .int .i64 120] rfl ?_; (with_reducible refine (spec_l1In.calls a0 (-120) 120 false _ A3.out).mono ?_); rintro e w' ⟨rfl, ⟨nd, rfl⟩⟩; refine ⟨_, rfl, ?_⟩))
  refine bodyPost_ret (results_list (rs := [.tmp 4, .tmp 5, .tmp 6, .tmp 7]) rfl (by simp) (.tmp (.tmp (.tmp (.tmp .nil))))) rfl ?_
  exact ⟨by first | rfl | (simp [errW_none, errW_some] <;> rfl) | (simp [*, errW_none, errW_some] <;> rfl), kO⟩

end Go.Proofs.Ytnbolemfldmohaa.P
