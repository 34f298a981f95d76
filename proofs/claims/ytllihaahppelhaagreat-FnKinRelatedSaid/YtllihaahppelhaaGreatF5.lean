/- Calls of the functions of the given program return what the plain Lean functions of the same names return; and a row of a law out of its pure statement. Written by a program of this session out of the translation; Lean checks it. No condition. -/
import Derived.Test.YtllihaahppelhaaGreatPx0
import Derived.Test.YtllihaahppelhaaGreatCt
import Derived.Test.YtllihaahppelhaaGreatF0
import Derived.Test.YtllihaahppelhaaGreatF1
import Derived.Test.YtllihaahppelhaaGreatF2
import Derived.Test.YtllihaahppelhaaGreatF3
import Derived.Test.YtllihaahppelhaaGreatF4
namespace Go.Proofs.YtllihaahppelhaaGreat.P
open Go.RowKit Go.Proofs.YtllihaahppelhaaGreatW.PrintWords Go.Proofs.YtllihaahppelhaaGreatW.PrintLast Go.Proofs.YtllihaahppelhaaGreatW.PrintMore
attribute [local go_sem] max2_int min2_int max_two min_two max_three min_three max_four min_four   -- for this text's walks alone
set_option linter.unusedVariables false
set_option linter.unusedSimpArgs false

/-! ### spec_StepsApart: function 19 -/
mutual
def spec_StepsApart.l0 : Nat → List (S41) → Int → List Int → List Int → Int → Option (Int × Bool)
 | 0, _, _, _, _, _ => none
 | k + 1, x0, x2, x8, x9, x10 => if (x8.length : Int) > 0 then ((spec_l1Has.f k x8 x2).bind fun t479 => (if t479 = true then (some (x10, true)) else (spec_StepsApart.l1 k x0 x2 x9 x10 ([] : List Int) x8 (x8.length : Int) 0))) else (some (0, false))
def spec_StepsApart.l1 : Nat → List (S41) → Int → List Int → Int → List Int → List Int → Int → Int → Option (Int × Bool)
 | 0, _, _, _, _, _, _, _, _ => none
 | k + 1, x0, x2, x9, x10, x11, x34, x35, x36 => if x36 < x35 then (if 0 ≤ x36 then (if x36 < (x34.length : Int) then ((spec_faParents.f k x0 (rd x34 x36)).bind fun t481 => ((spec_faChildren.f k x0 (rd x34 x36)).bind fun t484 => (if t481.length + t484.length < 17592186044416 then ((some (t481 ++ t484 : List Int)).bind fun y487 => (spec_StepsApart.l2 k x0 x2 x9 x10 x11 x34 x35 x36 y487 (y487.length : Int) 0)) else (none)))) else (none)) else (none)) else (spec_StepsApart.l0 k x0 x2 x11 x9 (wrap64 (x10 + 1)))
def spec_StepsApart.l2 : Nat → List (S41) → Int → List Int → Int → List Int → List Int → Int → Int → List Int → Int → Int → Option (Int × Bool)
 | 0, _, _, _, _, _, _, _, _, _, _, _ => none
 | k + 1, x0, x2, x9, x10, x11, x34, x35, x36, x46, x47, x48 => if x48 < x47 then (if 0 ≤ x48 then (if x48 < (x46.length : Int) then ((spec_l1Has.f k x9 (rd x46 x48)).bind fun t491 => (if t491 = true then (spec_StepsApart.l2 k x0 x2 x9 x10 x11 x34 x35 x36 x46 x47 (wrap64 (x48 + 1))) else (if x9.length < 17592186044416 then (if x11.length < 17592186044416 then (spec_StepsApart.l2 k x0 x2 (x9 ++ [rd x46 x48]) x10 (x11 ++ [rd x46 x48]) x34 x35 x36 x46 x47 (wrap64 (x48 + 1))) else (none)) else (none)))) else (none)) else (none)) else (spec_StepsApart.l1 k x0 x2 x9 x10 x11 x34 x35 (wrap64 (x36 + 1)))
end
def spec_StepsApart.f (k : Nat) (l0 : List (S41)) (a1 : Int) (a2 : Int) : Option (Int × Bool) := (spec_faTwo.f k l0 a1 a2).bind fun t472 => (if t472 = true then (spec_StepsApart.l0 k l0 a2 (([a1] : List Int)) (([a1] : List Int)) 0) else (some (0, false)))
set_option maxHeartbeats 8000000 in
set_option maxRecDepth 100000 in
theorem spec_StepsApart.calls (k : Nat) (A0 : Option Addr) (c0 : Nat) (l0 : List (S41)) (a1 : Int) (a2 : Int) (r1 : Int) (r2 : Bool) (w : World) (hr0 : Kd.C k41 w A0 l0.length l0) (hc0 : l0.length ≤ c0) (h : spec_StepsApart.f k l0 a1 a2 = some (r1, r2)) :
  Calls Tryz.prog 19 #[.slice A0 l0.length c0, .int .i64 a1, .int .i64 a2] w fun e w' => e = .returned (.tuple #[.int .i64 r1, .bool r2]) ∧ Below w.heap.size w w' := by
 have HR0 := Aside0.mk hr0
 have HC0 := Aside0.mk hc0
 clear hr0 hc0
 have HB := Aside0.mk (Below.refl w.heap.size w)
 have H : ((spec_faTwo.f k l0 a1 a2).bind fun t472 => (if t472 = true then (spec_StepsApart.l0 k l0 a2 (([a1] : List Int)) (([a1] : List Int)) 0) else (some (0, false)))) = some (r1, r2) := h
 clear h
 replace H := Option.bind_eq_some_iff.mp H
 obtain ⟨t472, A40, H⟩ := H
 have A4 := Aside0.mk A40
 clear A40
 by_cases c5 : t472 = true
 ·subst c5
  rw [if_pos rfl] at H
  obtain ⟨y473, hy473⟩ : ∃ y_ : List Int, y_ = (([a1] : List Int)) := ⟨_, rfl⟩
  replace H : (spec_StepsApart.l0 k l0 a2 y473 (([a1] : List Int)) 0) = some (r1, r2) := by first | (rw [hy473]; with_reducible exact H) | (have H2_ := (Option.bind_some _ _).symm.trans H; rw [hy473]; with_reducible exact H2_) | (have H2_ := (Option.bind_some _ _).symm.trans H; with_reducible exact H2_) | with_reducible exact H | (rw [hy473]; exact H) | exact H
  have Ny473 := Aside0.mk hy473
  clear hy473
  obtain ⟨y476, hy476⟩ : ∃ y_ : List Int, y_ = (([a1] : List Int)) := ⟨_, rfl⟩
  replace H : (spec_StepsApart.l0 k l0 a2 y473 y476 0) = some (r1, r2) := by first | (rw [hy476]; with_reducible exact H) | (have H2_ := (Option.bind_some _ _).symm.trans H; rw [hy476]; with_reducible exact H2_) | (have H2_ := (Option.bind_some _ _).symm.trans H; with_reducible exact H2_) | with_reducible exact H | (rw [hy476]; exact H) | exact H
  have Ny476 := Aside0.mk hy476
  clear hy476
  have H' := Aside0.mk H
  clear H
  go_enter Tryz.func19, Tryz.ntmps19
  go_wp2_with (first | ((with_reducible refine gate_callee (f := 40) rfl ?_); refine kE (some 19) Tryz.func40 #[.slice A0 l0.length c0, .int .i64 a1, .int .i64 a2] rfl ?_; (with_reducible refine (spec_faTwo.calls k _ _ l0 a1 a2 true _ ?side1 ?side2 A4.out).mono ?_); (case side1 => exact kD HR0); (case side2 => exact HC0.out); rintro e w6 ⟨rfl, hb⟩; refine ⟨_, rfl, ?_⟩; replace HB := kH HB hb; (try clear hb)) | ((with_reducible refine gate_dst (N := 22) rfl ?_); refine Kd.R_lit (Kd.int .i64) _ 3 ?hg (N := 22) ?hd (xs := ([a1] : List Int)) (inner := [.int .i64 a1]) (ok := fun _ => True) (okp := fun _ => True) ?hr ?hp (fun _ hk => hk) trivial (Below.refl _ _) (Nat.le_refl _) (by simp) ?_; (case hd => rfl); (case hg => rfl); (case hr => first | (go_simp; done) | (go_simp; rfl)); (case hp => exact (Reps.one (show Kd.M (Kd.int .i64) _ _ _ a1 [.int .i64 a1] from rfl) (Reps.none _ _))); intro v474 w7 ho8 hb hg_ hnew_; clear hg_ hnew_; (first | rw [← Ny473.out] at ho8 | (simp only [Int.reduceToNat] at ho8; rw [← Ny473.out] at ho8)); have n0_ := Aside0.mk (Kd.R_lower ho8 (below_size kO)); have n1_ := kH HB hb; clear HB; have HO475 := n0_; have HB := n1_; clear n0_ n1_; clear hb ho8) | ((with_reducible refine gate_dst (N := 24) rfl ?_); refine Kd.R_lit (Kd.int .i64) _ 3 ?hg (N := 24) ?hd (xs := ([a1] : List Int)) (inner := [.int .i64 a1]) (ok := fun _ => True) (okp := fun _ => True) ?hr ?hp (fun _ hk => hk) trivial (Below.refl _ _) (Nat.le_refl _) (by simp) ?_; (case hd => rfl); (case hg => rfl); (case hr => first | (go_simp; done) | (go_simp; rfl)); (case hp => exact (Reps.one (show Kd.M (Kd.int .i64) _ _ _ a1 [.int .i64 a1] from rfl) (Reps.none _ _))); intro v477 w9 ho10 hb hg_ hnew_; clear hg_ hnew_; (first | rw [← Ny476.out] at ho10 | (simp only [Int.reduceToNat] at ho10; rw [← Ny476.out] at ho10)); have n0_ := Aside0.mk (Kd.R_elder' (kW HO475) (Kd.R_base ho10) hb); have n1_ := Aside0.mk (Kd.R_lower (Kd.R_new' ho10 (Kd.R_lt (kW HO475))) (below_size kO)); have n2_ := kH HB hb; clear HO475; clear HB; have HO475 := n0_; have HO478 := n1_; have HB := n2_; clear n0_ n1_ n2_; clear hb ho10))
  go_loopg [8, 9, 10] k (fun kq v8 v9 v10 w' => ∃ (x8_1 : List Int) (x9_1 : List Int) (x10_1 : Int), v10 = .int .i64 x10_1 ∧ Aside0 (spec_StepsApart.l0 kq l0 a2 x8_1 x9_1 x10_1 = some (r1, r2)) ∧ Aside0 (kq ≤ k) ∧ Aside0 (Kd.R (Kd.int .i64) 3 w' w.heap.size (fun k_ => some k_ ≠ (v9 : Value).ownBlock) v8 x8_1) ∧ Aside0 (Kd.R (Kd.int .i64) 3 w' w.heap.size (fun k_ => some k_ ≠ (v8 : Value).ownBlock) v9 x9_1) ∧ Aside0 (Below w.heap.size w w'))
  case atStart => exact ⟨(y473), (y476), (0), kY, H', ⟨Nat.le_refl _⟩, ⟨by (with_reducible repeat (first | apply Kd.R_alloc | apply Kd.R_drewN | apply Kd.R_drew)); exact Kd.R_mono HO475.out (fun _ hk => hk.2)⟩, ⟨by (with_reducible repeat (first | apply Kd.R_alloc | apply Kd.R_drewN | apply Kd.R_drew)); exact Kd.R_mono HO478.out (fun _ hk => hk.2)⟩, kI⟩
  case round =>
   clear H'
   try clear c5
   obtain ⟨x8_1, x9_1, x10_1, rfl, HA, HK1, HO_8, HO_9, HB⟩ := hrel
   cases gk with
   | zero => exact absurd HA.out (by simp [spec_StepsApart.l0])
   | succ k1 =>
    have H := HA.out
    clear HA
    simp only [spec_StepsApart.l0] at H
    by_cases c11 : (x8_1.length : Int) > 0
    ·rw [if_pos c11] at H
     have c11b0 : decide (0 < (x8_1.length : Int)) = true := decide_eq_true c11
     have c11b1 : decide (0 < x8_1.length) = true := decide_eq_true (by omega)
     clear c11
     replace H := Option.bind_eq_some_iff.mp H
     obtain ⟨t479, A120, H⟩ := H
     have A12 := Aside0.mk A120
     clear A120
     by_cases c13 : t479 = true
     ·subst c13
      rw [if_pos rfl] at H
      simp only [Option.some.injEq, Prod.mk.injEq] at H
      obtain ⟨rfl, rfl⟩ := H
      obtain ⟨Ao14, co14, eo14⟩ := Kd.R_slice HO_8.out
      subst eo14
      go_wp2_with (first | ((with_reducible refine gate_callee (f := 56) rfl ?_); refine kE (some 32) Tryz.func56 #[.slice Ao14 x8_1.length co14, .int .i64 a2] rfl ?_; (with_reducible refine (spec_l1Has.calls k1 _ _ x8_1 a2 true _ ?side1 ?side2 A12.out).mono ?_); (case side1 => exact kDo HO_8); (case side2 => exact (Kd.R_reads' HO_8.out).2.1); rintro e w' ⟨rfl, ⟨nd, rfl⟩⟩; refine ⟨_, rfl, ?_⟩))
      go_ret2
      exact ⟨kZ, kO⟩
     ·replace c13 := Bool.eq_false_iff.mpr c13
      subst c13
      rw [if_neg (show ¬ (false = true) by decide)] at H
      have H' := Aside0.mk H
      clear H
      obtain ⟨Ao15, co15, eo15⟩ := Kd.R_slice HO_8.out
      subst eo15
      go_wp2_with (first | ((with_reducible refine gate_callee (f := 56) rfl ?_); refine kE (some 32) Tryz.func56 #[.slice Ao15 x8_1.length co15, .int .i64 a2] rfl ?_; (with_reducible refine (spec_l1Has.calls k1 _ _ x8_1 a2 false _ ?side1 ?side2 A12.out).mono ?_); (case side1 => exact kDo HO_8); (case side2 => exact (Kd.R_reads' HO_8.out).2.1); rintro e w' ⟨rfl, ⟨nd, rfl⟩⟩; refine ⟨_, rfl, ?_⟩))
      go_loopg [9, 11, 36] k1 (fun kq v9 v11 v36 w' => ∃ (x9_2 : List Int) (x11_2 : List Int) (x36_2 : Int), v36 = .int .i64 x36_2 ∧ Aside0 (spec_StepsApart.l1 kq l0 a2 x9_2 x10_1 x11_2 x8_1 (x8_1.length : Int) x36_2 = some (r1, r2)) ∧ Aside0 (kq ≤ k1) ∧ Aside0 (Kd.R (Kd.int .i64) 3 w' w.heap.size (fun k_ => some k_ ≠ (v11 : Value).ownBlock ∧ some k_ ≠ ((.slice Ao15 x8_1.length co15) : Value).ownBlock) v9 x9_2) ∧ Aside0 (Kd.R (Kd.int .i64) 3 w' w.heap.size (fun k_ => some k_ ≠ (v9 : Value).ownBlock ∧ some k_ ≠ ((.slice Ao15 x8_1.length co15) : Value).ownBlock) v11 x11_2) ∧ Aside0 (Kd.R (Kd.int .i64) 3 w' w.heap.size (fun k_ => some k_ ≠ (v9 : Value).ownBlock ∧ some k_ ≠ (v11 : Value).ownBlock) (.slice Ao15 x8_1.length co15) x8_1) ∧ Aside0 (Below w.heap.size w w'))
      case atStart => exact ⟨(x9_1), (([] : List Int)), (0), kY, H', ⟨Nat.le_refl _⟩, ⟨by (with_reducible repeat (first | apply Kd.R_alloc | apply Kd.R_drewN | apply Kd.R_drew)); exact Kd.R_mono HO_9.out (fun _ hk => ⟨(by simp [Value.ownBlock]), hk⟩)⟩, ⟨by first | exact Kd.R_nil _ _ _ _ _ | exact Kd.N_nil _ _ _ _ _ | exact Kd.V_nil _ _ _ _ _ | exact Kd.Q_nil _ _ _ _ _ | exact Kd.S_nil _ _ _ _ _⟩, ⟨by (with_reducible repeat (first | apply Kd.R_alloc | apply Kd.R_drewN | apply Kd.R_drew)); exact Kd.R_mono HO_8.out (fun _ hk => ⟨hk, (by simp [Value.ownBlock])⟩)⟩, kI⟩
      case round =>
       clear H'
       try clear c5
       try clear c11
       try clear c11b0
       try clear c11b1
       try clear c13
       obtain ⟨x9_2, x11_2, x36_2, rfl, HA, HK2, HO_9, HO_11, HO_34, HB⟩ := hrel
       cases gk with
       | zero => exact absurd HA.out (by simp [spec_StepsApart.l1])
       | succ k2 =>
        have H := HA.out
        clear HA
        simp only [spec_StepsApart.l1] at H
        by_cases c16 : x36_2 < (x8_1.length : Int)
        ·rw [if_pos c16] at H
         have c16b0 : decide (x36_2 < (x8_1.length : Int)) = true := decide_eq_true c16
         clear c16
         by_cases c17 : 0 ≤ x36_2
         ·rw [if_pos c17] at H
          have c17b0 : decide (0 ≤ x36_2) = true := decide_eq_true c17
          clear c17
          by_cases c18 : x36_2 < (x8_1.length : Int)
          ·rw [if_pos c18] at H
           have c18b0 : decide (x36_2 < (x8_1.length : Int)) = true := decide_eq_true c18
           clear c18
           replace H := Option.bind_eq_some_iff.mp H
           obtain ⟨t481, A190, H⟩ := H
           have A19 := Aside0.mk A190
           clear A190
           replace H := Option.bind_eq_some_iff.mp H
           obtain ⟨t484, A200, H⟩ := H
           have A20 := Aside0.mk A200
           clear A200
           by_cases c21 : t481.length + t484.length < 17592186044416
           ·rw [if_pos c21] at H
            have LMc21 := Aside0.mk c21
            clear c21
            obtain ⟨y487, hy487⟩ : ∃ y_ : List Int, y_ = (t481 ++ t484) := ⟨_, rfl⟩
            replace H : (spec_StepsApart.l2 k2 l0 a2 x9_2 x10_1 x11_2 x8_1 (x8_1.length : Int) x36_2 y487 (y487.length : Int) 0) = some (r1, r2) := by first | (rw [hy487]; with_reducible exact H) | (have H2_ := (Option.bind_some _ _).symm.trans H; rw [hy487]; with_reducible exact H2_) | (have H2_ := (Option.bind_some _ _).symm.trans H; with_reducible exact H2_) | with_reducible exact H | (rw [hy487]; exact H) | exact H
            have Ny487 := Aside0.mk hy487
            clear hy487
            have H' := Aside0.mk H
            clear H
            have p480 : 0 ≤ (x36_2 : Int) := of_decide_eq_true (by first | (with_reducible assumption) | assumption)
            have q480 : x36_2 < (x8_1.length : Int) := of_decide_eq_true (by first | (with_reducible assumption) | assumption)
            obtain ⟨ad480, e480, hx480_0⟩ := Kd.at_int (Kd.R_reads' HO_34.out).2.2 x36_2 p480 q480
            cases e480
            replace p480 := eq_true p480
            replace q480 := eq_true q480
            go_wp2_with (first | ((with_reducible refine gate_callee (f := 57) rfl ?_); refine kE (some 42) Tryz.func57 #[.slice A0 l0.length c0, .int .i64 (rd x8_1 x36_2)] rfl ?_; (with_reducible refine (spec_faParents.calls k2 _ _ l0 (rd x8_1 x36_2) t481 _ ?side1 ?side2 A19.out).mono ?_); (case side1 => exact kDb HR0); (case side2 => exact HC0.out); rintro e w22 ⟨v482, rfl, ho0, hb⟩; refine ⟨_, rfl, ?_⟩; have n0_ := Aside0.mk (Kd.R_elder' (kW HO_9) (Kd.R_base ho0) hb); have n1_ := Aside0.mk (Kd.R_elder' (kW HO_11) (Kd.R_base ho0) hb); have n2_ := Aside0.mk (Kd.R_elder' (kW HO_34) (Kd.R_base ho0) hb); have n3_ := Aside0.mk (Kd.R_lower (Kd.R_new' (Kd.R_new' (Kd.R_new' ho0 (Kd.R_lt (kW HO_9))) (Kd.R_lt (kW HO_11))) (Kd.R_lt (kW HO_34))) (below_size kO)); have n4_ := kH HB hb; clear HO_9; clear HO_11; clear HO_34; clear HB; have HO_9 := n0_; have HO_11 := n1_; have HO_34 := n2_; have HO483 := n3_; have HB := n4_; clear n0_ n1_ n2_ n3_ n4_; (try clear hb); (try clear ho0)) | ((with_reducible refine gate_callee (f := 54) rfl ?_); refine kE (some 45) Tryz.func54 #[.slice A0 l0.length c0, .int .i64 (rd x8_1 x36_2)] rfl ?_; (with_reducible refine (spec_faChildren.calls k2 _ _ l0 (rd x8_1 x36_2) t484 _ ?side1 ?side2 A20.out).mono ?_); (case side1 => exact kDb HR0); (case side2 => exact HC0.out); rintro e w23 ⟨v485, rfl, ho0, hb⟩; refine ⟨_, rfl, ?_⟩; have n0_ := Aside0.mk (Kd.R_elder' (kW HO_9) (Kd.R_base ho0) hb); have n1_ := Aside0.mk (Kd.R_elder' (kW HO_11) (Kd.R_base ho0) hb); have n2_ := Aside0.mk (Kd.R_elder' (kW HO_34) (Kd.R_base ho0) hb); have n3_ := Aside0.mk (Kd.R_elder' (kW HO483) (Kd.R_base ho0) hb); have n4_ := Aside0.mk (Kd.R_lower (Kd.R_new' (Kd.R_new' (Kd.R_new' (Kd.R_new' ho0 (Kd.R_lt (kW HO_9))) (Kd.R_lt (kW HO_11))) (Kd.R_lt (kW HO_34))) (Kd.R_lt (kW HO483))) (below_size kO)); have n5_ := kH HB hb; clear HO_9; clear HO_11; clear HO_34; clear HO483; clear HB; have HO_9 := n0_; have HO_11 := n1_; have HO_34 := n2_; have HO483 := n3_; have HO486 := n4_; have HB := n5_; clear n0_ n1_ n2_ n3_ n4_ n5_; (try clear hb); (try clear ho0); obtain ⟨Ao25, co25, eo25⟩ := Kd.R_slice HO486.out; subst eo25) | ((with_reducible refine gate_builtin (b := .append) (xs := #[.tmp 42, .tmp 45]) rfl ?_); at_builtin; refine Kd.R_append_rows (Kd.int .i64) (w0 := w) w.heap.size rfl (.tmp 42) (.tmp 45) 31 3 (.int .i64 0) 8 rfl Tryz.underlying31 info3 rfl (by decide) (by omega) v482 t481 t484 _ _ _ (fun k_ => some k_ ≠ (u9 : Value).ownBlock ∧ some k_ ≠ (u11 : Value).ownBlock ∧ some k_ ≠ (.slice (some ad480) x8_1.length co15 : Value).ownBlock ∧ some k_ ≠ (.slice Ao25 t484.length co25 : Value).ownBlock) (fun _ => False) rfl rfl ?aO ?aR (fun _ _ h => h) (fun _ h => h.elim) ?aF ?aB ?aS ?aL ?_; (case aR => exact kDo HO486); (case aB => exact kO); (case aF => exact (fun k_ hk => ⟨Kd.fresh' (Kd.R_lt (kW HO_9)) k_ hk, Kd.fresh' (Kd.R_lt (kW HO_11)) k_ hk, Kd.fresh' (Kd.R_lt (kW HO_34)) k_ hk, Kd.fresh' (Kd.R_lt (kW HO486)) k_ hk⟩)); (case aO => exact (by (with_reducible repeat (first | apply Kd.R_alloc | apply Kd.R_drewN | apply Kd.R_drew)); exact Kd.R_mono HO483.out (fun _ hk => ⟨hk.1.1.1.2, ⟨hk.1.1.2, ⟨hk.1.2, hk.2⟩⟩⟩))); (case aS => exact (below_size kO)); (case aL => have := LMc21.out; omega); intro v488 w24 ho hb hg hat; rw [← Ny487.out] at ho; have n0_ := Aside0.mk (Kd.R_after (ok := (fun k_ => some k_ ≠ (u11 : Value).ownBlock ∧ some k_ ≠ (.slice (some ad480) x8_1.length co15 : Value).ownBlock ∧ some k_ ≠ (.slice Ao25 t484.length co25 : Value).ownBlock)) (by (with_reducible repeat (first | apply Kd.R_alloc | apply Kd.R_drewN | apply Kd.R_drew)); exact Kd.R_mono HO_9.out (fun _ hk => ⟨⟨hk.1.1.1, ⟨hk.1.1.2, hk.2⟩⟩, hk.1.2⟩)) hg hat); have n1_ := Aside0.mk (Kd.R_after (ok := (fun k_ => some k_ ≠ (u9 : Value).ownBlock ∧ some k_ ≠ (.slice (some ad480) x8_1.length co15 : Value).ownBlock ∧ some k_ ≠ (.slice Ao25 t484.length co25 : Value).ownBlock)) (by (with_reducible repeat (first | apply Kd.R_alloc | apply Kd.R_drewN | apply Kd.R_drew)); exact Kd.R_mono HO_11.out (fun _ hk => ⟨⟨hk.1.1.1, ⟨hk.1.1.2, hk.2⟩⟩, hk.1.2⟩)) hg hat); have n2_ := Aside0.mk (Kd.R_after (ok := (fun k_ => some k_ ≠ (u9 : Value).ownBlock ∧ some k_ ≠ (u11 : Value).ownBlock ∧ some k_ ≠ (.slice Ao25 t484.length co25 : Value).ownBlock)) (by (with_reducible repeat (first | apply Kd.R_alloc | apply Kd.R_drewN | apply Kd.R_drew)); exact Kd.R_mono HO_34.out (fun _ hk => ⟨⟨hk.1.1.1, ⟨hk.1.1.2, hk.2⟩⟩, hk.1.2⟩)) hg hat); have n3_ := Aside0.mk (Kd.R_after (ok := (fun k_ => some k_ ≠ (u9 : Value).ownBlock ∧ some k_ ≠ (u11 : Value).ownBlock ∧ some k_ ≠ (.slice (some ad480) x8_1.length co15 : Value).ownBlock)) (by (with_reducible repeat (first | apply Kd.R_alloc | apply Kd.R_drewN | apply Kd.R_drew)); exact Kd.R_mono HO486.out (fun _ hk => ⟨⟨hk.1.1.1.2, ⟨hk.1.1.2, hk.1.2⟩⟩, hk.2⟩)) hg hat); have n4_ := Aside0.mk (hb); have n5_ := Aside0.mk (ho); clear HO_9; clear HO_11; clear HO_34; clear HO486; clear HB; clear HO483; have HO_9 := n0_; have HO_11 := n1_; have HO_34 := n2_; have HO486 := n3_; have HB := n4_; have HO489 := n5_; clear n0_ n1_ n2_ n3_ n4_ n5_; clear ho hb hg hat; obtain ⟨Ao26, co26, eo26⟩ := Kd.R_slice HO489.out; subst eo26))
            go_loopg [9, 11, 48] k2 (fun kq v9 v11 v48 w' => ∃ (x9_3 : List Int) (x11_3 : List Int) (x48_3 : Int), v48 = .int .i64 x48_3 ∧ Aside0 (spec_StepsApart.l2 kq l0 a2 x9_3 x10_1 x11_3 x8_1 (x8_1.length : Int) x36_2 y487 (y487.length : Int) x48_3 = some (r1, r2)) ∧ Aside0 (kq ≤ k2) ∧ Aside0 (Kd.R (Kd.int .i64) 3 w' w.heap.size (fun k_ => some k_ ≠ (v11 : Value).ownBlock ∧ some k_ ≠ ((.slice (some ad480) x8_1.length co15) : Value).ownBlock ∧ some k_ ≠ ((.slice Ao26 y487.length co26) : Value).ownBlock) v9 x9_3) ∧ Aside0 (Kd.R (Kd.int .i64) 3 w' w.heap.size (fun k_ => some k_ ≠ (v9 : Value).ownBlock ∧ some k_ ≠ ((.slice (some ad480) x8_1.length co15) : Value).ownBlock ∧ some k_ ≠ ((.slice Ao26 y487.length co26) : Value).ownBlock) v11 x11_3) ∧ Aside0 (Kd.R (Kd.int .i64) 3 w' w.heap.size (fun k_ => some k_ ≠ (v9 : Value).ownBlock ∧ some k_ ≠ (v11 : Value).ownBlock ∧ some k_ ≠ ((.slice Ao26 y487.length co26) : Value).ownBlock) (.slice (some ad480) x8_1.length co15) x8_1) ∧ Aside0 (Kd.R (Kd.int .i64) 3 w' w.heap.size (fun k_ => some k_ ≠ (v9 : Value).ownBlock ∧ some k_ ≠ (v11 : Value).ownBlock ∧ some k_ ≠ ((.slice (some ad480) x8_1.length co15) : Value).ownBlock) (.slice Ao26 y487.length co26) y487) ∧ Aside0 (Below w.heap.size w w'))
            case atStart => exact ⟨(x9_2), (x11_2), (0), kY, H', ⟨Nat.le_refl _⟩, ⟨by (with_reducible repeat (first | apply Kd.R_alloc | apply Kd.R_drewN | apply Kd.R_drew)); exact Kd.R_mono HO_9.out (fun _ hk => ⟨hk.1.1, ⟨hk.1.2.1, hk.2⟩⟩)⟩, ⟨by (with_reducible repeat (first | apply Kd.R_alloc | apply Kd.R_drewN | apply Kd.R_drew)); exact Kd.R_mono HO_11.out (fun _ hk => ⟨hk.1.1, ⟨hk.1.2.1, hk.2⟩⟩)⟩, ⟨by (with_reducible repeat (first | apply Kd.R_alloc | apply Kd.R_drewN | apply Kd.R_drew)); exact Kd.R_mono HO_34.out (fun _ hk => ⟨hk.1.1, ⟨hk.1.2.1, hk.2⟩⟩)⟩, ⟨by (with_reducible repeat (first | apply Kd.R_alloc | apply Kd.R_drewN | apply Kd.R_drew)); exact Kd.R_mono HO489.out (fun _ hk => ⟨hk.1, ⟨hk.2.1, hk.2.2.1⟩⟩)⟩, kI⟩
            case round =>
             clear H'
             try clear c5
             try clear c11
             try clear c11b0
             try clear c11b1
             try clear c13
             try clear c16
             try clear c16b0
             try clear c17
             try clear c17b0
             try clear c18
             try clear c18b0
             try clear c21
             try clear p480
             obtain ⟨x9_3, x11_3, x48_3, rfl, HA, HK3, HO_9, HO_11, HO_34, HO_46, HB⟩ := hrel
             cases gk with
             | zero => exact absurd HA.out (by simp [spec_StepsApart.l2])
             | succ k3 =>
              have H := HA.out
              clear HA
              simp only [spec_StepsApart.l2] at H
              by_cases c27 : x48_3 < (y487.length : Int)
              ·rw [if_pos c27] at H
               have c27b0 : decide (x48_3 < (y487.length : Int)) = true := decide_eq_true c27
               clear c27
               by_cases c28 : 0 ≤ x48_3
               ·rw [if_pos c28] at H
                have c28b0 : decide (0 ≤ x48_3) = true := decide_eq_true c28
                clear c28
                by_cases c29 : x48_3 < (y487.length : Int)
                ·rw [if_pos c29] at H
                 have c29b0 : decide (x48_3 < (y487.length : Int)) = true := decide_eq_true c29
                 clear c29
                 replace H := Option.bind_eq_some_iff.mp H
                 obtain ⟨t491, A300, H⟩ := H
                 have A30 := Aside0.mk A300
                 clear A300
                 by_cases c31 : t491 = true
                 ·subst c31
                  rw [if_pos rfl] at H
                  have H' := Aside0.mk H
                  clear H
                  have p490 : 0 ≤ (x48_3 : Int) := of_decide_eq_true (by first | (with_reducible assumption) | assumption)
                  have q490 : x48_3 < (y487.length : Int) := of_decide_eq_true (by first | (with_reducible assumption) | assumption)
                  obtain ⟨ad490, e490, hx490_0⟩ := Kd.at_int (Kd.R_reads' HO_46.out).2.2 x48_3 p490 q490
                  cases e490
                  replace p490 := eq_true p490
                  replace q490 := eq_true q490
                  obtain ⟨Ao32, co32, eo32⟩ := Kd.R_slice HO_9.out
                  subst eo32
                  go_wp2_with (first | ((with_reducible refine gate_callee (f := 56) rfl ?_); refine kE (some 54) Tryz.func56 #[.slice Ao32 x9_3.length co32, .int .i64 (rd y487 x48_3)] rfl ?_; (with_reducible refine (spec_l1Has.calls k3 _ _ x9_3 (rd y487 x48_3) true _ ?side1 ?side2 A30.out).mono ?_); (case side1 => exact kDo HO_9); (case side2 => exact (Kd.R_reads' HO_9.out).2.1); rintro e w' ⟨rfl, ⟨nd, rfl⟩⟩; refine ⟨_, rfl, ?_⟩))
                  go_roundg k3
                  case measure => have := HK1.out; have := HK2.out; have := HK3.out; omega
                  case rel => exact ⟨(x9_3), (x11_3), (wrap64 (x48_3 + 1)), kY, H', ⟨by have := HK1.out; have := HK2.out; have := HK3.out; omega⟩, ⟨kW HO_9⟩, ⟨kW HO_11⟩, ⟨kW HO_34⟩, ⟨kW HO_46⟩, kI⟩
                 ·replace c31 := Bool.eq_false_iff.mpr c31
                  subst c31
                  rw [if_neg (show ¬ (false = true) by decide)] at H
                  by_cases c33 : x9_3.length < 17592186044416
                  ·rw [if_pos c33] at H
                   have LMc33 := Aside0.mk c33
                   clear c33
                   obtain ⟨y492, hy492⟩ : ∃ y_ : List Int, y_ = (x9_3 ++ [rd y487 x48_3]) := ⟨_, rfl⟩
                   replace H : (if x11_3.length < 17592186044416 then (spec_StepsApart.l2 k3 l0 a2 y492 x10_1 (x11_3 ++ [rd y487 x48_3]) x8_1 (x8_1.length : Int) x36_2 y487 (y487.length : Int) (wrap64 (x48_3 + 1))) else (none)) = some (r1, r2) := by first | (rw [hy492]; with_reducible exact H) | (have H2_ := (Option.bind_some _ _).symm.trans H; rw [hy492]; with_reducible exact H2_) | (have H2_ := (Option.bind_some _ _).symm.trans H; with_reducible exact H2_) | with_reducible exact H | (rw [hy492]; exact H) | exact H
                   have Ny492 := Aside0.mk hy492
                   clear hy492
                   by_cases c34 : x11_3.length < 17592186044416
                   ·rw [if_pos c34] at H
                    have LMc34 := Aside0.mk c34
                    clear c34
                    obtain ⟨y495, hy495⟩ : ∃ y_ : List Int, y_ = (x11_3 ++ [rd y487 x48_3]) := ⟨_, rfl⟩
                    replace H : (spec_StepsApart.l2 k3 l0 a2 y492 x10_1 y495 x8_1 (x8_1.length : Int) x36_2 y487 (y487.length : Int) (wrap64 (x48_3 + 1))) = some (r1, r2) := by first | (rw [hy495]; with_reducible exact H) | (have H2_ := (Option.bind_some _ _).symm.trans H; rw [hy495]; with_reducible exact H2_) | (have H2_ := (Option.bind_some _ _).symm.trans H; with_reducible exact H2_) | with_reducible exact H | (rw [hy495]; exact H) | exact H
                    have Ny495 := Aside0.mk hy495
                    clear hy495
                    have H' := Aside0.mk H
                    clear H
                    have p490 : 0 ≤ (x48_3 : Int) := of_decide_eq_true (by first | (with_reducible assumption) | assumption)
                    have q490 : x48_3 < (y487.length : Int) := of_decide_eq_true (by first | (with_reducible assumption) | assumption)
                    obtain ⟨ad490, e490, hx490_0⟩ := Kd.at_int (Kd.R_reads' HO_46.out).2.2 x48_3 p490 q490
                    cases e490
                    replace p490 := eq_true p490
                    replace q490 := eq_true q490
                    obtain ⟨Ao35, co35, eo35⟩ := Kd.R_slice HO_9.out
                    subst eo35
                    go_wp2_with (first | ((with_reducible refine gate_callee (f := 56) rfl ?_); refine kE (some 54) Tryz.func56 #[.slice Ao35 x9_3.length co35, .int .i64 (rd y487 x48_3)] rfl ?_; (with_reducible refine (spec_l1Has.calls k3 _ _ x9_3 (rd y487 x48_3) false _ ?side1 ?side2 A30.out).mono ?_); (case side1 => exact kDo HO_9); (case side2 => exact (Kd.R_reads' HO_9.out).2.1); rintro e w' ⟨rfl, ⟨nd, rfl⟩⟩; refine ⟨_, rfl, ?_⟩) | ((with_reducible refine gate_builtin (b := .append) (xs := #[.tmp 56, .tmp 58]) rfl ?_); at_builtin; refine Kd.R_append (Kd.int .i64) (w0 := w) w.heap.size rfl (.tmp 56) (.tmp 58) 31 3 (.int .i64 0) 8 rfl Tryz.underlying31 info3 rfl (by decide) (by omega) (.slice Ao35 x9_3.length co35) x9_3 (rd y487 x48_3) [.int .i64 (rd y487 x48_3)] (fun k_ => some k_ ≠ (u11 : Value).ownBlock ∧ some k_ ≠ (.slice (some ad480) x8_1.length co15 : Value).ownBlock ∧ some k_ ≠ (.slice (some ad490) y487.length co26 : Value).ownBlock) (fun _ => False) rfl rfl ?aP (fun _ hk => hk.elim) ?aF ?aO ?aB ?aS ?aL ?_; (case aP => exact rfl); (case aB => exact kO); (case aF => exact (fun k_ hk => ⟨Kd.fresh' (Kd.R_lt (kW HO_11)) k_ hk, Kd.fresh' (Kd.R_lt (kW HO_34)) k_ hk, Kd.fresh' (Kd.R_lt (kW HO_46)) k_ hk⟩)); (case aO => exact (kW HO_9)); (case aS => exact (below_size kO)); (case aL => have := LMc33.out; omega); intro v493 w36 ho hb hg hat; rw [← Ny492.out] at ho; have n0_ := Aside0.mk (Kd.R_after (ok := (fun k_ => some k_ ≠ (.slice (some ad480) x8_1.length co15 : Value).ownBlock ∧ some k_ ≠ (.slice (some ad490) y487.length co26 : Value).ownBlock)) (by (with_reducible repeat (first | apply Kd.R_alloc | apply Kd.R_drewN | apply Kd.R_drew)); exact Kd.R_mono HO_11.out (fun _ hk => ⟨⟨hk.2.1, hk.2.2⟩, hk.1⟩)) hg hat); have n1_ := Aside0.mk (Kd.R_after (ok := (fun k_ => some k_ ≠ (u11 : Value).ownBlock ∧ some k_ ≠ (.slice (some ad490) y487.length co26 : Value).ownBlock)) (by (with_reducible repeat (first | apply Kd.R_alloc | apply Kd.R_drewN | apply Kd.R_drew)); exact Kd.R_mono HO_34.out (fun _ hk => ⟨⟨hk.2.1, hk.2.2⟩, hk.1⟩)) hg hat); have n2_ := Aside0.mk (Kd.R_after (ok := (fun k_ => some k_ ≠ (u11 : Value).ownBlock ∧ some k_ ≠ (.slice (some ad480) x8_1.length co15 : Value).ownBlock)) (by (with_reducible repeat (first | apply Kd.R_alloc | apply Kd.R_drewN | apply Kd.R_drew)); exact Kd.R_mono HO_46.out (fun _ hk => ⟨⟨hk.2.1, hk.2.2⟩, hk.1⟩)) hg hat); have n3_ := Aside0.mk (hb); have n4_ := Aside0.mk (ho); clear HO_11; clear HO_34; clear HO_46; clear HB; clear HO_9; have HO_11 := n0_; have HO_34 := n1_; have HO_46 := n2_; have HB := n3_; have HO494 := n4_; clear n0_ n1_ n2_ n3_ n4_; clear ho hb hg hat) | ((with_reducible refine gate_builtin (b := .append) (xs := #[.tmp 60, .tmp 62]) rfl ?_); at_builtin; refine Kd.R_append (Kd.int .i64) (w0 := w) w.heap.size rfl (.tmp 60) (.tmp 62) 31 3 (.int .i64 0) 8 rfl Tryz.underlying31 info3 rfl (by decide) (by omega) u11 x11_3 (rd y487 x48_3) [.int .i64 (rd y487 x48_3)] (fun k_ => some k_ ≠ (.slice (some ad480) x8_1.length co15 : Value).ownBlock ∧ some k_ ≠ (.slice (some ad490) y487.length co26 : Value).ownBlock ∧ some k_ ≠ (v493 : Value).ownBlock) (fun _ => False) rfl rfl ?aP (fun _ hk => hk.elim) ?aF ?aO ?aB ?aS ?aL ?_; (case aP => exact rfl); (case aB => exact kO); (case aF => exact (fun k_ hk => ⟨Kd.fresh' (Kd.R_lt (kW HO_34)) k_ hk, Kd.fresh' (Kd.R_lt (kW HO_46)) k_ hk, Kd.fresh' (Kd.R_lt (kW HO494)) k_ hk⟩)); (case aO => exact (by (with_reducible repeat (first | apply Kd.R_alloc | apply Kd.R_drewN | apply Kd.R_drew)); exact Kd.R_mono HO_11.out (fun _ hk => ⟨hk.1.1, ⟨hk.1.2, hk.2⟩⟩))); (case aS => exact (below_size kO)); (case aL => have := LMc34.out; omega); intro v496 w37 ho hb hg hat; rw [← Ny495.out] at ho; have n0_ := Aside0.mk (Kd.R_after (ok := (fun k_ => some k_ ≠ (.slice (some ad490) y487.length co26 : Value).ownBlock ∧ some k_ ≠ (v493 : Value).ownBlock)) (by (with_reducible repeat (first | apply Kd.R_alloc | apply Kd.R_drewN | apply Kd.R_drew)); exact Kd.R_mono HO_34.out (fun _ hk => ⟨⟨hk.1.2, hk.2⟩, hk.1.1⟩)) hg hat); have n1_ := Aside0.mk (Kd.R_after (ok := (fun k_ => some k_ ≠ (.slice (some ad480) x8_1.length co15 : Value).ownBlock ∧ some k_ ≠ (v493 : Value).ownBlock)) (by (with_reducible repeat (first | apply Kd.R_alloc | apply Kd.R_drewN | apply Kd.R_drew)); exact Kd.R_mono HO_46.out (fun _ hk => ⟨⟨hk.1.2, hk.2⟩, hk.1.1⟩)) hg hat); have n2_ := Aside0.mk (Kd.R_after (ok := (fun k_ => some k_ ≠ (.slice (some ad480) x8_1.length co15 : Value).ownBlock ∧ some k_ ≠ (.slice (some ad490) y487.length co26 : Value).ownBlock)) (by (with_reducible repeat (first | apply Kd.R_alloc | apply Kd.R_drewN | apply Kd.R_drew)); exact Kd.R_mono HO494.out (fun _ hk => ⟨⟨hk.2.1, hk.2.2⟩, hk.1⟩)) hg hat); have n3_ := Aside0.mk (hb); have n4_ := Aside0.mk (ho); clear HO_34; clear HO_46; clear HO494; clear HB; clear HO_11; have HO_34 := n0_; have HO_46 := n1_; have HO494 := n2_; have HB := n3_; have HO497 := n4_; clear n0_ n1_ n2_ n3_ n4_; clear ho hb hg hat))
                    go_roundg k3
                    case measure => have := HK1.out; have := HK2.out; have := HK3.out; omega
                    case rel => exact ⟨(y492), (y495), (wrap64 (x48_3 + 1)), kY, H', ⟨by have := HK1.out; have := HK2.out; have := HK3.out; omega⟩, ⟨by (with_reducible repeat (first | apply Kd.R_alloc | apply Kd.R_drewN | apply Kd.R_drew)); exact Kd.R_mono HO494.out (fun _ hk => ⟨hk.2, ⟨hk.1.1, hk.1.2⟩⟩)⟩, ⟨by (with_reducible repeat (first | apply Kd.R_alloc | apply Kd.R_drewN | apply Kd.R_drew)); exact Kd.R_mono HO497.out (fun _ hk => ⟨hk.2.2, ⟨hk.1, hk.2.1⟩⟩)⟩, ⟨by (with_reducible repeat (first | apply Kd.R_alloc | apply Kd.R_drewN | apply Kd.R_drew)); exact Kd.R_mono HO_34.out (fun _ hk => ⟨hk.1.2, ⟨hk.2, hk.1.1⟩⟩)⟩, ⟨by (with_reducible repeat (first | apply Kd.R_alloc | apply Kd.R_drewN | apply Kd.R_drew)); exact Kd.R_mono HO_46.out (fun _ hk => ⟨hk.1.2, ⟨hk.2, hk.1.1⟩⟩)⟩, kI⟩
                   ·rw [if_neg c34] at H
                    exact absurd H (by simp)
                  ·rw [if_neg c33] at H
                   exact absurd H (by simp)
                ·rw [if_neg c29] at H
                 exact absurd H (by simp)
               ·rw [if_neg c28] at H
                exact absurd H (by simp)
              ·rw [if_neg c27] at H
               have c27b0 : decide (x48_3 < (y487.length : Int)) = false := decide_eq_false c27
               clear c27
               have H' := Aside0.mk H
               clear H
               go_wp2
               go_roundg k3
               case measure => have := HK1.out; have := HK2.out; have := HK3.out; omega
               case rel => exact ⟨(x9_3), (x11_3), (wrap64 (x36_2 + 1)), kY, H', ⟨by have := HK1.out; have := HK2.out; have := HK3.out; omega⟩, ⟨by (with_reducible repeat (first | apply Kd.R_alloc | apply Kd.R_drewN | apply Kd.R_drew)); exact Kd.R_mono HO_9.out (fun _ hk => ⟨hk.1, hk.2.1⟩)⟩, ⟨by (with_reducible repeat (first | apply Kd.R_alloc | apply Kd.R_drewN | apply Kd.R_drew)); exact Kd.R_mono HO_11.out (fun _ hk => ⟨hk.1, hk.2.1⟩)⟩, ⟨by (with_reducible repeat (first | apply Kd.R_alloc | apply Kd.R_drewN | apply Kd.R_drew)); exact Kd.R_mono HO_34.out (fun _ hk => ⟨hk.1, hk.2.1⟩)⟩, kI⟩
           ·rw [if_neg c21] at H
            exact absurd H (by simp)
          ·rw [if_neg c18] at H
           exact absurd H (by simp)
         ·rw [if_neg c17] at H
          exact absurd H (by simp)
        ·rw [if_neg c16] at H
         have c16b0 : decide (x36_2 < (x8_1.length : Int)) = false := decide_eq_false c16
         clear c16
         have H' := Aside0.mk H
         clear H
         go_wp2
         go_roundg k2
         case measure => have := HK1.out; have := HK2.out; omega
         case rel => exact ⟨(x11_2), (x9_2), (wrap64 (x10_1 + 1)), kY, H', ⟨by have := HK1.out; have := HK2.out; omega⟩, ⟨by (with_reducible repeat (first | apply Kd.R_alloc | apply Kd.R_drewN | apply Kd.R_drew)); exact Kd.R_mono HO_11.out (fun _ hk => hk.1)⟩, ⟨by (with_reducible repeat (first | apply Kd.R_alloc | apply Kd.R_drewN | apply Kd.R_drew)); exact Kd.R_mono HO_9.out (fun _ hk => hk.1)⟩, kI⟩
    ·rw [if_neg c11] at H
     have c11b0 : decide (0 < (x8_1.length : Int)) = false := decide_eq_false c11
     have c11b1 : decide (0 < x8_1.length) = false := decide_eq_false (by omega)
     clear c11
     simp only [Option.some.injEq, Prod.mk.injEq] at H
     obtain ⟨rfl, rfl⟩ := H
     obtain ⟨Ao38, co38, eo38⟩ := Kd.R_slice HO_8.out
     subst eo38
     go_wp2
     go_ret2
     exact ⟨kZ, kO⟩
 ·replace c5 := Bool.eq_false_iff.mpr c5
  subst c5
  rw [if_neg (show ¬ (false = true) by decide)] at H
  simp only [Option.some.injEq, Prod.mk.injEq] at H
  obtain ⟨rfl, rfl⟩ := H
  go_enter Tryz.func19, Tryz.ntmps19
  go_wp2_with (first | ((with_reducible refine gate_callee (f := 40) rfl ?_); refine kE (some 19) Tryz.func40 #[.slice A0 l0.length c0, .int .i64 a1, .int .i64 a2] rfl ?_; (with_reducible refine (spec_faTwo.calls k _ _ l0 a1 a2 false _ ?side1 ?side2 A4.out).mono ?_); (case side1 => exact kD HR0); (case side2 => exact HC0.out); rintro e w39 ⟨rfl, hb⟩; refine ⟨_, rfl, ?_⟩; replace HB := kH HB hb; (try clear hb)))
  go_ret2
  exact ⟨kZ, kO⟩

/-! ### impl_AgeAtBirth: function 20 -/
def impl_AgeAtBirth.f (k : Nat) (l0 : List (S41)) (a1 : Int) (a2 : Int) : Option (Int × Bool) := (impl_hasKin.f k l0 (([a1, a2] : List Int))).bind fun t501 => (if t501 = true then ((impl_isParent.f k l0 a1 a2).bind fun t502 => (if t502 = true then (if 0 ≤ a2 then (if a2 < (l0.length : Int) then (if 0 ≤ a1 then (if a1 < (l0.length : Int) then (some (wrap64 (((rd_T41 l0 a2).f0) - ((rd_T41 l0 a1).f0)), true)) else (none)) else (none)) else (none)) else (none)) else (some (0, false)))) else (some (0, false)))
set_option maxHeartbeats 8000000 in
set_option maxRecDepth 100000 in
theorem impl_AgeAtBirth.calls (k : Nat) (A0 : Option Addr) (c0 : Nat) (l0 : List (S41)) (a1 : Int) (a2 : Int) (r1 : Int) (r2 : Bool) (w : World) (hr0 : Kd.C k41 w A0 l0.length l0) (hc0 : l0.length ≤ c0) (h : impl_AgeAtBirth.f k l0 a1 a2 = some (r1, r2)) :
  Calls Tryz.prog 20 #[.slice A0 l0.length c0, .int .i64 a1, .int .i64 a2] w fun e w' => e = .returned (.tuple #[.int .i64 r1, .bool r2]) ∧ Below w.heap.size w w' := by
 have HR0 := Aside0.mk hr0
 have HC0 := Aside0.mk hc0
 clear hr0 hc0
 have HB := Aside0.mk (Below.refl w.heap.size w)
 have H : ((impl_hasKin.f k l0 (([a1, a2] : List Int))).bind fun t501 => (if t501 = true then ((impl_isParent.f k l0 a1 a2).bind fun t502 => (if t502 = true then (if 0 ≤ a2 then (if a2 < (l0.length : Int) then (if 0 ≤ a1 then (if a1 < (l0.length : Int) then (some (wrap64 (((rd_T41 l0 a2).f0) - ((rd_T41 l0 a1).f0)), true)) else (none)) else (none)) else (none)) else (none)) else (some (0, false)))) else (some (0, false)))) = some (r1, r2) := h
 clear h
 obtain ⟨y498, hy498⟩ : ∃ y_ : List Int, y_ = (([a1, a2] : List Int)) := ⟨_, rfl⟩
 replace H : ((impl_hasKin.f k l0 y498).bind fun t501 => (if t501 = true then ((impl_isParent.f k l0 a1 a2).bind fun t502 => (if t502 = true then (if 0 ≤ a2 then (if a2 < (l0.length : Int) then (if 0 ≤ a1 then (if a1 < (l0.length : Int) then (some (wrap64 (((rd_T41 l0 a2).f0) - ((rd_T41 l0 a1).f0)), true)) else (none)) else (none)) else (none)) else (none)) else (some (0, false)))) else (some (0, false)))) = some (r1, r2) := by first | (rw [hy498]; with_reducible exact H) | (have H2_ := (Option.bind_some _ _).symm.trans H; rw [hy498]; with_reducible exact H2_) | (have H2_ := (Option.bind_some _ _).symm.trans H; with_reducible exact H2_) | with_reducible exact H | (rw [hy498]; exact H) | exact H
 have Ny498 := Aside0.mk hy498
 clear hy498
 replace H := Option.bind_eq_some_iff.mp H
 obtain ⟨t501, A40, H⟩ := H
 have A4 := Aside0.mk A40
 clear A40
 by_cases c5 : t501 = true
 ·subst c5
  rw [if_pos rfl] at H
  replace H := Option.bind_eq_some_iff.mp H
  obtain ⟨t502, A60, H⟩ := H
  have A6 := Aside0.mk A60
  clear A60
  by_cases c7 : t502 = true
  ·subst c7
   rw [if_pos rfl] at H
   by_cases c8 : 0 ≤ a2
   ·rw [if_pos c8] at H
    have c8b0 : decide (0 ≤ a2) = true := decide_eq_true c8
    clear c8
    by_cases c9 : a2 < (l0.length : Int)
    ·rw [if_pos c9] at H
     have c9b0 : decide (a2 < (l0.length : Int)) = true := decide_eq_true c9
     clear c9
     by_cases c10 : 0 ≤ a1
     ·rw [if_pos c10] at H
      have c10b0 : decide (0 ≤ a1) = true := decide_eq_true c10
      clear c10
      by_cases c11 : a1 < (l0.length : Int)
      ·rw [if_pos c11] at H
       have c11b0 : decide (a1 < (l0.length : Int)) = true := decide_eq_true c11
       clear c11
       simp only [Option.some.injEq, Prod.mk.injEq] at H
       obtain ⟨rfl, rfl⟩ := H
       go_enter Tryz.func20, Tryz.ntmps20
       go_wp2_with (first | ((with_reducible refine gate_dst (N := 11) rfl ?_); refine Kd.R_lit (Kd.int .i64) _ 3 ?hg (N := 11) ?hd (xs := ([a1, a2] : List Int)) (inner := [.int .i64 a1, .int .i64 a2]) (ok := fun _ => True) (okp := fun _ => True) ?hr ?hp (fun _ hk => hk) trivial (Below.refl _ _) (Nat.le_refl _) (by simp) ?_; (case hd => rfl); (case hg => rfl); (case hr => first | (go_simp; done) | (go_simp; rfl)); (case hp => exact (Reps.one (show Kd.M (Kd.int .i64) _ _ _ a1 [.int .i64 a1] from rfl) (Reps.one (show Kd.M (Kd.int .i64) _ _ _ a2 [.int .i64 a2] from rfl) (Reps.none _ _)))); intro v499 w12 ho13 hb hg_ hnew_; clear hg_ hnew_; (first | rw [← Ny498.out] at ho13 | (simp only [Int.reduceToNat] at ho13; rw [← Ny498.out] at ho13)); have n0_ := Aside0.mk (Kd.R_lower ho13 (below_size kO)); have n1_ := kH HB hb; clear HB; have HO500 := n0_; have HB := n1_; clear n0_ n1_; clear hb ho13; obtain ⟨Ao14, co14, eo14⟩ := Kd.R_slice HO500.out; subst eo14) | (go_at_call 31; (with_reducible refine (impl_hasKin.calls k _ _ l0 _ _ y498 true _ ?side1 ?side2 ?side3 ?side4 A4.out).mono ?_); (case side1 => exact kDb HR0); (case side2 => exact HC0.out); (case side3 => exact kDo HO500); (case side4 => exact (Kd.R_reads' HO500.out).2.1); rintro e w15 ⟨rfl, hb⟩; have n0_ := Aside0.mk (Kd.R_below (kW HO500) hb); have n1_ := kH HB hb; clear HO500; clear HB; have HO500 := n0_; have HB := n1_; clear n0_ n1_; (try clear hb)) | (go_at_call 32; (with_reducible refine (impl_isParent.calls k _ _ l0 a1 a2 true _ ?side1 ?side2 A6.out).mono ?_); (case side1 => exact kDb HR0); (case side2 => exact HC0.out); rintro e w16 ⟨rfl, hb⟩; have n0_ := Aside0.mk (Kd.R_below (kW HO500) hb); have n1_ := kH HB hb; clear HO500; clear HB; have HO500 := n0_; have HB := n1_; clear n0_ n1_; (try clear hb); have p503 : 0 ≤ (a2 : Int) := of_decide_eq_true (by first | (with_reducible assumption) | assumption); have q503 : a2 < (l0.length : Int) := of_decide_eq_true (by first | (with_reducible assumption) | assumption); obtain ⟨ad503, e503, hx503_0, hx503_1, hx503_2⟩ := at_T41 HR0.out a2 p503 q503; cases e503; replace hx503_0 := (HB.out.cell (World.block_lt_of_cell? w _ hx503_0)).trans hx503_0; replace hx503_1 := (HB.out.cell (World.block_lt_of_cell? w _ hx503_1)).trans hx503_1; replace hx503_2 := (HB.out.cell (World.block_lt_of_cell? w _ hx503_2)).trans hx503_2; replace p503 := eq_true p503; replace q503 := eq_true q503; have p504 : 0 ≤ (a1 : Int) := of_decide_eq_true (by first | (with_reducible assumption) | assumption); have q504 : a1 < (l0.length : Int) := of_decide_eq_true (by first | (with_reducible assumption) | assumption); obtain ⟨ad504, e504, hx504_0, hx504_1, hx504_2⟩ := at_T41 HR0.out a1 p504 q504; obtain rfl : ad503 = ad504 := (by injection e504); replace hx504_0 := (HB.out.cell (World.block_lt_of_cell? w _ hx504_0)).trans hx504_0; replace hx504_1 := (HB.out.cell (World.block_lt_of_cell? w _ hx504_1)).trans hx504_1; replace hx504_2 := (HB.out.cell (World.block_lt_of_cell? w _ hx504_2)).trans hx504_2; replace p504 := eq_true p504; replace q504 := eq_true q504))
       repeat (go_quiet (first | ((with_reducible refine gate_dst (N := 11) rfl ?_); refine Kd.R_lit (Kd.int .i64) _ 3 ?hg (N := 11) ?hd (xs := ([a1, a2] : List Int)) (inner := [.int .i64 a1, .int .i64 a2]) (ok := fun _ => True) (okp := fun _ => True) ?hr ?hp (fun _ hk => hk) trivial (Below.refl _ _) (Nat.le_refl _) (by simp) ?_; (case hd => rfl); (case hg => rfl); (case hr => first | (go_simp; done) | (go_simp; rfl)); (case hp => exact (Reps.one (show Kd.M (Kd.int .i64) _ _ _ a1 [.int .i64 a1] from rfl) (Reps.one (show Kd.M (Kd.int .i64) _ _ _ a2 [.int .i64 a2] from rfl) (Reps.none _ _)))); intro v499 w12 ho13 hb hg_ hnew_; clear hg_ hnew_; (first | rw [← Ny498.out] at ho13 | (simp only [Int.reduceToNat] at ho13; rw [← Ny498.out] at ho13)); have n0_ := Aside0.mk (Kd.R_lower ho13 (below_size kO)); have n1_ := kH HB hb; clear HB; have HO500 := n0_; have HB := n1_; clear n0_ n1_; clear hb ho13; obtain ⟨Ao14, co14, eo14⟩ := Kd.R_slice HO500.out; subst eo14) | (go_at_call 31; (with_reducible refine (impl_hasKin.calls k _ _ l0 _ _ y498 true _ ?side1 ?side2 ?side3 ?side4 A4.out).mono ?_); (case side1 => exact kDb HR0); (case side2 => exact HC0.out); (case side3 => exact kDo HO500); (case side4 => exact (Kd.R_reads' HO500.out).2.1); rintro e w15 ⟨rfl, hb⟩; have n0_ := Aside0.mk (Kd.R_below (kW HO500) hb); have n1_ := kH HB hb; clear HO500; clear HB; have HO500 := n0_; have HB := n1_; clear n0_ n1_; (try clear hb)) | (go_at_call 32; (with_reducible refine (impl_isParent.calls k _ _ l0 a1 a2 true _ ?side1 ?side2 A6.out).mono ?_); (case side1 => exact kDb HR0); (case side2 => exact HC0.out); rintro e w16 ⟨rfl, hb⟩; have n0_ := Aside0.mk (Kd.R_below (kW HO500) hb); have n1_ := kH HB hb; clear HO500; clear HB; have HO500 := n0_; have HB := n1_; clear n0_ n1_; (try clear hb); have p503 : 0 ≤ (a2 : Int) := of_decide_eq_true (by first | (with_reducible assumption) | assumption); have q503 : a2 < (l0.length : Int) := of_decide_eq_true (by first | (with_reducible assumption) | assumption); obtain ⟨ad503, e503, hx503_0, hx503_1, hx503_2⟩ := at_T41 HR0.out a2 p503 q503; cases e503; replace hx503_0 := (HB.out.cell (World.block_lt_of_cell? w _ hx503_0)).trans hx503_0; replace hx503_1 := (HB.out.cell (World.block_lt_of_cell? w _ hx503_1)).trans hx503_1; replace hx503_2 := (HB.out.cell (World.block_lt_of_cell? w _ hx503_2)).trans hx503_2; replace p503 := eq_true p503; replace q503 := eq_true q503; have p504 : 0 ≤ (a1 : Int) := of_decide_eq_true (by first | (with_reducible assumption) | assumption); have q504 : a1 < (l0.length : Int) := of_decide_eq_true (by first | (with_reducible assumption) | assumption); obtain ⟨ad504, e504, hx504_0, hx504_1, hx504_2⟩ := at_T41 HR0.out a1 p504 q504; obtain rfl : ad503 = ad504 := (by injection e504); replace hx504_0 := (HB.out.cell (World.block_lt_of_cell? w _ hx504_0)).trans hx504_0; replace hx504_1 := (HB.out.cell (World.block_lt_of_cell? w _ hx504_1)).trans hx504_1; replace hx504_2 := (HB.out.cell (World.block_lt_of_cell? w _ hx504_2)).trans hx504_2; replace p504 := eq_true p504; replace q504 := eq_true q504)); try go_wp2_with (first | ((with_reducible refine gate_dst (N := 11) rfl ?_); refine Kd.R_lit (Kd.int .i64) _ 3 ?hg (N := 11) ?hd (xs := ([a1, a2] : List Int)) (inner := [.int .i64 a1, .int .i64 a2]) (ok := fun _ => True) (okp := fun _ => True) ?hr ?hp (fun _ hk => hk) trivial (Below.refl _ _) (Nat.le_refl _) (by simp) ?_; (case hd => rfl); (case hg => rfl); (case hr => first | (go_simp; done) | (go_simp; rfl)); (case hp => exact (Reps.one (show Kd.M (Kd.int .i64) _ _ _ a1 [.int .i64 a1] from rfl) (Reps.one (show Kd.M (Kd.int .i64) _ _ _ a2 [.int .i64 a2] from rfl) (Reps.none _ _)))); intro v499 w12 ho13 hb hg_ hnew_; clear hg_ hnew_; (first | rw [← Ny498.out] at ho13 | (simp only [Int.reduceToNat] at ho13; rw [← Ny498.out] at ho13)); have n0_ := Aside0.mk (Kd.R_lower ho13 (below_size kO)); have n1_ := kH HB hb; clear HB; have HO500 := n0_; have HB := n1_; clear n0_ n1_; clear hb ho13; obtain ⟨Ao14, co14, eo14⟩ := Kd.R_slice HO500.out; subst eo14) | (go_at_call 31; (with_reducible refine (impl_hasKin.calls k _ _ l0 _ _ y498 true _ ?side1 ?side2 ?side3 ?side4 A4.out).mono ?_); (case side1 => exact kDb HR0); (case side2 => exact HC0.out); (case side3 => exact kDo HO500); (case side4 => exact (Kd.R_reads' HO500.out).2.1); rintro e w15 ⟨rfl, hb⟩; have n0_ := Aside0.mk (Kd.R_below (kW HO500) hb); have n1_ := kH HB hb; clear HO500; clear HB; have HO500 := n0_; have HB := n1_; clear n0_ n1_; (try clear hb)) | (go_at_call 32; (with_reducible refine (impl_isParent.calls k _ _ l0 a1 a2 true _ ?side1 ?side2 A6.out).mono ?_); (case side1 => exact kDb HR0); (case side2 => exact HC0.out); rintro e w16 ⟨rfl, hb⟩; have n0_ := Aside0.mk (Kd.R_below (kW HO500) hb); have n1_ := kH HB hb; clear HO500; clear HB; have HO500 := n0_; have HB := n1_; clear n0_ n1_; (try clear hb); have p503 : 0 ≤ (a2 : Int) := of_decide_eq_true (by first | (with_reducible assumption) | assumption); have q503 : a2 < (l0.length : Int) := of_decide_eq_true (by first | (with_reducible assumption) | assumption); obtain ⟨ad503, e503, hx503_0, hx503_1, hx503_2⟩ := at_T41 HR0.out a2 p503 q503; cases e503; replace hx503_0 := (HB.out.cell (World.block_lt_of_cell? w _ hx503_0)).trans hx503_0; replace hx503_1 := (HB.out.cell (World.block_lt_of_cell? w _ hx503_1)).trans hx503_1; replace hx503_2 := (HB.out.cell (World.block_lt_of_cell? w _ hx503_2)).trans hx503_2; replace p503 := eq_true p503; replace q503 := eq_true q503; have p504 : 0 ≤ (a1 : Int) := of_decide_eq_true (by first | (with_reducible assumption) | assumption); have q504 : a1 < (l0.length : Int) := of_decide_eq_true (by first | (with_reducible assumption) | assumption); obtain ⟨ad504, e504, hx504_0, hx504_1, hx504_2⟩ := at_T41 HR0.out a1 p504 q504; obtain rfl : ad503 = ad504 := (by injection e504); replace hx504_0 := (HB.out.cell (World.block_lt_of_cell? w _ hx504_0)).trans hx504_0; replace hx504_1 := (HB.out.cell (World.block_lt_of_cell? w _ hx504_1)).trans hx504_1; replace hx504_2 := (HB.out.cell (World.block_lt_of_cell? w _ hx504_2)).trans hx504_2; replace p504 := eq_true p504; replace q504 := eq_true q504)))
       go_ret2
       exact ⟨kZ, kO⟩
      ·rw [if_neg c11] at H
       exact absurd H (by simp)
     ·rw [if_neg c10] at H
      exact absurd H (by simp)
    ·rw [if_neg c9] at H
     exact absurd H (by simp)
   ·rw [if_neg c8] at H
    exact absurd H (by simp)
  ·replace c7 := Bool.eq_false_iff.mpr c7
   subst c7
   rw [if_neg (show ¬ (false = true) by decide)] at H
   simp only [Option.some.injEq, Prod.mk.injEq] at H
   obtain ⟨rfl, rfl⟩ := H
   go_enter Tryz.func20, Tryz.ntmps20
   go_wp2_with (first | ((with_reducible refine gate_dst (N := 11) rfl ?_); refine Kd.R_lit (Kd.int .i64) _ 3 ?hg (N := 11) ?hd (xs := ([a1, a2] : List Int)) (inner := [.int .i64 a1, .int .i64 a2]) (ok := fun _ => True) (okp := fun _ => True) ?hr ?hp (fun _ hk => hk) trivial (Below.refl _ _) (Nat.le_refl _) (by simp) ?_; (case hd => rfl); (case hg => rfl); (case hr => first | (go_simp; done) | (go_simp; rfl)); (case hp => exact (Reps.one (show Kd.M (Kd.int .i64) _ _ _ a1 [.int .i64 a1] from rfl) (Reps.one (show Kd.M (Kd.int .i64) _ _ _ a2 [.int .i64 a2] from rfl) (Reps.none _ _)))); intro v499 w17 ho18 hb hg_ hnew_; clear hg_ hnew_; (first | rw [← Ny498.out] at ho18 | (simp only [Int.reduceToNat] at ho18; rw [← Ny498.out] at ho18)); have n0_ := Aside0.mk (Kd.R_lower ho18 (below_size kO)); have n1_ := kH HB hb; clear HB; have HO500 := n0_; have HB := n1_; clear n0_ n1_; clear hb ho18; obtain ⟨Ao19, co19, eo19⟩ := Kd.R_slice HO500.out; subst eo19) | (go_at_call 31; (with_reducible refine (impl_hasKin.calls k _ _ l0 _ _ y498 true _ ?side1 ?side2 ?side3 ?side4 A4.out).mono ?_); (case side1 => exact kDb HR0); (case side2 => exact HC0.out); (case side3 => exact kDo HO500); (case side4 => exact (Kd.R_reads' HO500.out).2.1); rintro e w20 ⟨rfl, hb⟩; have n0_ := Aside0.mk (Kd.R_below (kW HO500) hb); have n1_ := kH HB hb; clear HO500; clear HB; have HO500 := n0_; have HB := n1_; clear n0_ n1_; (try clear hb)) | (go_at_call 32; (with_reducible refine (impl_isParent.calls k _ _ l0 a1 a2 false _ ?side1 ?side2 A6.out).mono ?_); (case side1 => exact kDb HR0); (case side2 => exact HC0.out); rintro e w21 ⟨rfl, hb⟩; have n0_ := Aside0.mk (Kd.R_below (kW HO500) hb); have n1_ := kH HB hb; clear HO500; clear HB; have HO500 := n0_; have HB := n1_; clear n0_ n1_; (try clear hb)))
   repeat (go_quiet (first | ((with_reducible refine gate_dst (N := 11) rfl ?_); refine Kd.R_lit (Kd.int .i64) _ 3 ?hg (N := 11) ?hd (xs := ([a1, a2] : List Int)) (inner := [.int .i64 a1, .int .i64 a2]) (ok := fun _ => True) (okp := fun _ => True) ?hr ?hp (fun _ hk => hk) trivial (Below.refl _ _) (Nat.le_refl _) (by simp) ?_; (case hd => rfl); (case hg => rfl); (case hr => first | (go_simp; done) | (go_simp; rfl)); (case hp => exact (Reps.one (show Kd.M (Kd.int .i64) _ _ _ a1 [.int .i64 a1] from rfl) (Reps.one (show Kd.M (Kd.int .i64) _ _ _ a2 [.int .i64 a2] from rfl) (Reps.none _ _)))); intro v499 w17 ho18 hb hg_ hnew_; clear hg_ hnew_; (first | rw [← Ny498.out] at ho18 | (simp only [Int.reduceToNat] at ho18; rw [← Ny498.out] at ho18)); have n0_ := Aside0.mk (Kd.R_lower ho18 (below_size kO)); have n1_ := kH HB hb; clear HB; have HO500 := n0_; have HB := n1_; clear n0_ n1_; clear hb ho18; obtain ⟨Ao19, co19, eo19⟩ := Kd.R_slice HO500.out; subst eo19) | (go_at_call 31; (with_reducible refine (impl_hasKin.calls k _ _ l0 _ _ y498 true _ ?side1 ?side2 ?side3 ?side4 A4.out).mono ?_); (case side1 => exact kDb HR0); (case side2 => exact HC0.out); (case side3 => exact kDo HO500); (case side4 => exact (Kd.R_reads' HO500.out).2.1); rintro e w20 ⟨rfl, hb⟩; have n0_ := Aside0.mk (Kd.R_below (kW HO500) hb); have n1_ := kH HB hb; clear HO500; clear HB; have HO500 := n0_; have HB := n1_; clear n0_ n1_; (try clear hb)) | (go_at_call 32; (with_reducible refine (impl_isParent.calls k _ _ l0 a1 a2 false _ ?side1 ?side2 A6.out).mono ?_); (case side1 => exact kDb HR0); (case side2 => exact HC0.out); rintro e w21 ⟨rfl, hb⟩; have n0_ := Aside0.mk (Kd.R_below (kW HO500) hb); have n1_ := kH HB hb; clear HO500; clear HB; have HO500 := n0_; have HB := n1_; clear n0_ n1_; (try clear hb))); try go_wp2_with (first | ((with_reducible refine gate_dst (N := 11) rfl ?_); refine Kd.R_lit (Kd.int .i64) _ 3 ?hg (N := 11) ?hd (xs := ([a1, a2] : List Int)) (inner := [.int .i64 a1, .int .i64 a2]) (ok := fun _ => True) (okp := fun _ => True) ?hr ?hp (fun _ hk => hk) trivial (Below.refl _ _) (Nat.le_refl _) (by simp) ?_; (case hd => rfl); (case hg => rfl); (case hr => first | (go_simp; done) | (go_simp; rfl)); (case hp => exact (Reps.one (show Kd.M (Kd.int .i64) _ _ _ a1 [.int .i64 a1] from rfl) (Reps.one (show Kd.M (Kd.int .i64) _ _ _ a2 [.int .i64 a2] from rfl) (Reps.none _ _)))); intro v499 w17 ho18 hb hg_ hnew_; clear hg_ hnew_; (first | rw [← Ny498.out] at ho18 | (simp only [Int.reduceToNat] at ho18; rw [← Ny498.out] at ho18)); have n0_ := Aside0.mk (Kd.R_lower ho18 (below_size kO)); have n1_ := kH HB hb; clear HB; have HO500 := n0_; have HB := n1_; clear n0_ n1_; clear hb ho18; obtain ⟨Ao19, co19, eo19⟩ := Kd.R_slice HO500.out; subst eo19) | (go_at_call 31; (with_reducible refine (impl_hasKin.calls k _ _ l0 _ _ y498 true _ ?side1 ?side2 ?side3 ?side4 A4.out).mono ?_); (case side1 => exact kDb HR0); (case side2 => exact HC0.out); (case side3 => exact kDo HO500); (case side4 => exact (Kd.R_reads' HO500.out).2.1); rintro e w20 ⟨rfl, hb⟩; have n0_ := Aside0.mk (Kd.R_below (kW HO500) hb); have n1_ := kH HB hb; clear HO500; clear HB; have HO500 := n0_; have HB := n1_; clear n0_ n1_; (try clear hb)) | (go_at_call 32; (with_reducible refine (impl_isParent.calls k _ _ l0 a1 a2 false _ ?side1 ?side2 A6.out).mono ?_); (case side1 => exact kDb HR0); (case side2 => exact HC0.out); rintro e w21 ⟨rfl, hb⟩; have n0_ := Aside0.mk (Kd.R_below (kW HO500) hb); have n1_ := kH HB hb; clear HO500; clear HB; have HO500 := n0_; have HB := n1_; clear n0_ n1_; (try clear hb))))
   go_ret2
   exact ⟨kZ, kO⟩
 ·replace c5 := Bool.eq_false_iff.mpr c5
  subst c5
  rw [if_neg (show ¬ (false = true) by decide)] at H
  simp only [Option.some.injEq, Prod.mk.injEq] at H
  obtain ⟨rfl, rfl⟩ := H
  go_enter Tryz.func20, Tryz.ntmps20
  go_wp2_with (first | ((with_reducible refine gate_dst (N := 11) rfl ?_); refine Kd.R_lit (Kd.int .i64) _ 3 ?hg (N := 11) ?hd (xs := ([a1, a2] : List Int)) (inner := [.int .i64 a1, .int .i64 a2]) (ok := fun _ => True) (okp := fun _ => True) ?hr ?hp (fun _ hk => hk) trivial (Below.refl _ _) (Nat.le_refl _) (by simp) ?_; (case hd => rfl); (case hg => rfl); (case hr => first | (go_simp; done) | (go_simp; rfl)); (case hp => exact (Reps.one (show Kd.M (Kd.int .i64) _ _ _ a1 [.int .i64 a1] from rfl) (Reps.one (show Kd.M (Kd.int .i64) _ _ _ a2 [.int .i64 a2] from rfl) (Reps.none _ _)))); intro v499 w22 ho23 hb hg_ hnew_; clear hg_ hnew_; (first | rw [← Ny498.out] at ho23 | (simp only [Int.reduceToNat] at ho23; rw [← Ny498.out] at ho23)); have n0_ := Aside0.mk (Kd.R_lower ho23 (below_size kO)); have n1_ := kH HB hb; clear HB; have HO500 := n0_; have HB := n1_; clear n0_ n1_; clear hb ho23; obtain ⟨Ao24, co24, eo24⟩ := Kd.R_slice HO500.out; subst eo24) | (go_at_call 31; (with_reducible refine (impl_hasKin.calls k _ _ l0 _ _ y498 false _ ?side1 ?side2 ?side3 ?side4 A4.out).mono ?_); (case side1 => exact kDb HR0); (case side2 => exact HC0.out); (case side3 => exact kDo HO500); (case side4 => exact (Kd.R_reads' HO500.out).2.1); rintro e w25 ⟨rfl, hb⟩; have n0_ := Aside0.mk (Kd.R_below (kW HO500) hb); have n1_ := kH HB hb; clear HO500; clear HB; have HO500 := n0_; have HB := n1_; clear n0_ n1_; (try clear hb)))
  repeat (go_quiet (first | ((with_reducible refine gate_dst (N := 11) rfl ?_); refine Kd.R_lit (Kd.int .i64) _ 3 ?hg (N := 11) ?hd (xs := ([a1, a2] : List Int)) (inner := [.int .i64 a1, .int .i64 a2]) (ok := fun _ => True) (okp := fun _ => True) ?hr ?hp (fun _ hk => hk) trivial (Below.refl _ _) (Nat.le_refl _) (by simp) ?_; (case hd => rfl); (case hg => rfl); (case hr => first | (go_simp; done) | (go_simp; rfl)); (case hp => exact (Reps.one (show Kd.M (Kd.int .i64) _ _ _ a1 [.int .i64 a1] from rfl) (Reps.one (show Kd.M (Kd.int .i64) _ _ _ a2 [.int .i64 a2] from rfl) (Reps.none _ _)))); intro v499 w22 ho23 hb hg_ hnew_; clear hg_ hnew_; (first | rw [← Ny498.out] at ho23 | (simp only [Int.reduceToNat] at ho23; rw [← Ny498.out] at ho23)); have n0_ := Aside0.mk (Kd.R_lower ho23 (below_size kO)); have n1_ := kH HB hb; clear HB; have HO500 := n0_; have HB := n1_; clear n0_ n1_; clear hb ho23; obtain ⟨Ao24, co24, eo24⟩ := Kd.R_slice HO500.out; subst eo24) | (go_at_call 31; (with_reducible refine (impl_hasKin.calls k _ _ l0 _ _ y498 false _ ?side1 ?side2 ?side3 ?side4 A4.out).mono ?_); (case side1 => exact kDb HR0); (case side2 => exact HC0.out); (case side3 => exact kDo HO500); (case side4 => exact (Kd.R_reads' HO500.out).2.1); rintro e w25 ⟨rfl, hb⟩; have n0_ := Aside0.mk (Kd.R_below (kW HO500) hb); have n1_ := kH HB hb; clear HO500; clear HB; have HO500 := n0_; have HB := n1_; clear n0_ n1_; (try clear hb))); try go_wp2_with (first | ((with_reducible refine gate_dst (N := 11) rfl ?_); refine Kd.R_lit (Kd.int .i64) _ 3 ?hg (N := 11) ?hd (xs := ([a1, a2] : List Int)) (inner := [.int .i64 a1, .int .i64 a2]) (ok := fun _ => True) (okp := fun _ => True) ?hr ?hp (fun _ hk => hk) trivial (Below.refl _ _) (Nat.le_refl _) (by simp) ?_; (case hd => rfl); (case hg => rfl); (case hr => first | (go_simp; done) | (go_simp; rfl)); (case hp => exact (Reps.one (show Kd.M (Kd.int .i64) _ _ _ a1 [.int .i64 a1] from rfl) (Reps.one (show Kd.M (Kd.int .i64) _ _ _ a2 [.int .i64 a2] from rfl) (Reps.none _ _)))); intro v499 w22 ho23 hb hg_ hnew_; clear hg_ hnew_; (first | rw [← Ny498.out] at ho23 | (simp only [Int.reduceToNat] at ho23; rw [← Ny498.out] at ho23)); have n0_ := Aside0.mk (Kd.R_lower ho23 (below_size kO)); have n1_ := kH HB hb; clear HB; have HO500 := n0_; have HB := n1_; clear n0_ n1_; clear hb ho23; obtain ⟨Ao24, co24, eo24⟩ := Kd.R_slice HO500.out; subst eo24) | (go_at_call 31; (with_reducible refine (impl_hasKin.calls k _ _ l0 _ _ y498 false _ ?side1 ?side2 ?side3 ?side4 A4.out).mono ?_); (case side1 => exact kDb HR0); (case side2 => exact HC0.out); (case side3 => exact kDo HO500); (case side4 => exact (Kd.R_reads' HO500.out).2.1); rintro e w25 ⟨rfl, hb⟩; have n0_ := Aside0.mk (Kd.R_below (kW HO500) hb); have n1_ := kH HB hb; clear HO500; clear HB; have HO500 := n0_; have HB := n1_; clear n0_ n1_; (try clear hb))))
  go_ret2
  exact ⟨kZ, kO⟩

/-! ### spec_AgeAtBirth: function 21 -/
def spec_AgeAtBirth.f (k : Nat) (l0 : List (S41)) (a1 : Int) (a2 : Int) : Option (Int × Bool) := (spec_faTwo.f k l0 a1 a2).bind fun t505 => (if t505 = true then ((spec_faParents.f k l0 a2).bind fun t506 => ((spec_l1Has.f k t506 a1).bind fun t509 => (if t509 = true then (if 0 ≤ a2 then (if a2 < (l0.length : Int) then (if 0 ≤ a1 then (if a1 < (l0.length : Int) then (some (wrap64 (((rd_T41 l0 a2).f0) - ((rd_T41 l0 a1).f0)), true)) else (none)) else (none)) else (none)) else (none)) else (some (0, false))))) else (some (0, false)))
set_option maxHeartbeats 8000000 in
set_option maxRecDepth 100000 in
theorem spec_AgeAtBirth.calls (k : Nat) (A0 : Option Addr) (c0 : Nat) (l0 : List (S41)) (a1 : Int) (a2 : Int) (r1 : Int) (r2 : Bool) (w : World) (hr0 : Kd.C k41 w A0 l0.length l0) (hc0 : l0.length ≤ c0) (h : spec_AgeAtBirth.f k l0 a1 a2 = some (r1, r2)) :
  Calls Tryz.prog 21 #[.slice A0 l0.length c0, .int .i64 a1, .int .i64 a2] w fun e w' => e = .returned (.tuple #[.int .i64 r1, .bool r2]) ∧ Below w.heap.size w w' := by
 have HR0 := Aside0.mk hr0
 have HC0 := Aside0.mk hc0
 clear hr0 hc0
 have HB := Aside0.mk (Below.refl w.heap.size w)
 have H : ((spec_faTwo.f k l0 a1 a2).bind fun t505 => (if t505 = true then ((spec_faParents.f k l0 a2).bind fun t506 => ((spec_l1Has.f k t506 a1).bind fun t509 => (if t509 = true then (if 0 ≤ a2 then (if a2 < (l0.length : Int) then (if 0 ≤ a1 then (if a1 < (l0.length : Int) then (some (wrap64 (((rd_T41 l0 a2).f0) - ((rd_T41 l0 a1).f0)), true)) else (none)) else (none)) else (none)) else (none)) else (some (0, false))))) else (some (0, false)))) = some (r1, r2) := h
 clear h
 replace H := Option.bind_eq_some_iff.mp H
 obtain ⟨t505, A40, H⟩ := H
 have A4 := Aside0.mk A40
 clear A40
 by_cases c5 : t505 = true
 ·subst c5
  rw [if_pos rfl] at H
  replace H := Option.bind_eq_some_iff.mp H
  obtain ⟨t506, A60, H⟩ := H
  have A6 := Aside0.mk A60
  clear A60
  replace H := Option.bind_eq_some_iff.mp H
  obtain ⟨t509, A70, H⟩ := H
  have A7 := Aside0.mk A70
  clear A70
  by_cases c8 : t509 = true
  ·subst c8
   rw [if_pos rfl] at H
   by_cases c9 : 0 ≤ a2
   ·rw [if_pos c9] at H
    have c9b0 : decide (0 ≤ a2) = true := decide_eq_true c9
    clear c9
    by_cases c10 : a2 < (l0.length : Int)
    ·rw [if_pos c10] at H
     have c10b0 : decide (a2 < (l0.length : Int)) = true := decide_eq_true c10
     clear c10
     by_cases c11 : 0 ≤ a1
     ·rw [if_pos c11] at H
      have c11b0 : decide (0 ≤ a1) = true := decide_eq_true c11
      clear c11
      by_cases c12 : a1 < (l0.length : Int)
      ·rw [if_pos c12] at H
       have c12b0 : decide (a1 < (l0.length : Int)) = true := decide_eq_true c12
       clear c12
       simp only [Option.some.injEq, Prod.mk.injEq] at H
       obtain ⟨rfl, rfl⟩ := H
       go_enter Tryz.func21, Tryz.ntmps21
       go_wp2_with (first | (go_at_call 40; (with_reducible refine (spec_faTwo.calls k _ _ l0 a1 a2 true _ ?side1 ?side2 A4.out).mono ?_); (case side1 => exact kD HR0); (case side2 => exact HC0.out); rintro e w13 ⟨rfl, hb⟩; replace HB := kH HB hb; (try clear hb)) | (go_at_call 57; (with_reducible refine (spec_faParents.calls k _ _ l0 a2 t506 _ ?side1 ?side2 A6.out).mono ?_); (case side1 => exact kDb HR0); (case side2 => exact HC0.out); rintro e w14 ⟨v507, rfl, ho0, hb⟩; have n0_ := Aside0.mk (Kd.R_lower ho0 (below_size kO)); have n1_ := kH HB hb; clear HB; have HO508 := n0_; have HB := n1_; clear n0_ n1_; (try clear hb); (try clear ho0); obtain ⟨Ao15, co15, eo15⟩ := Kd.R_slice HO508.out; subst eo15) | (go_at_call 56; (with_reducible refine (spec_l1Has.calls k _ _ t506 a1 true _ ?side1 ?side2 A7.out).mono ?_); (case side1 => exact kDo HO508); (case side2 => exact (Kd.R_reads' HO508.out).2.1); rintro e w' ⟨rfl, ⟨nd, rfl⟩⟩; (try first | exact ⟨rfl, _, World.drewN_drewN _ _ _⟩ | exact ⟨rfl, _, Eq.trans (World.drewN_drewN _ _ _) (congrArg (World.drewN _) (Nat.add_assoc _ _ _))⟩); have p510 : 0 ≤ (a2 : Int) := of_decide_eq_true (by first | (with_reducible assumption) | assumption); have q510 : a2 < (l0.length : Int) := of_decide_eq_true (by first | (with_reducible assumption) | assumption); obtain ⟨ad510, e510, hx510_0, hx510_1, hx510_2⟩ := at_T41 HR0.out a2 p510 q510; cases e510; replace hx510_0 := (HB.out.cell (World.block_lt_of_cell? w _ hx510_0)).trans hx510_0; replace hx510_1 := (HB.out.cell (World.block_lt_of_cell? w _ hx510_1)).trans hx510_1; replace hx510_2 := (HB.out.cell (World.block_lt_of_cell? w _ hx510_2)).trans hx510_2; replace p510 := eq_true p510; replace q510 := eq_true q510; have p511 : 0 ≤ (a1 : Int) := of_decide_eq_true (by first | (with_reducible assumption) | assumption); have q511 : a1 < (l0.length : Int) := of_decide_eq_true (by first | (with_reducible assumption) | assumption); obtain ⟨ad511, e511, hx511_0, hx511_1, hx511_2⟩ := at_T41 HR0.out a1 p511 q511; obtain rfl : ad510 = ad511 := (by injection e511); replace hx511_0 := (HB.out.cell (World.block_lt_of_cell? w _ hx511_0)).trans hx511_0; replace hx511_1 := (HB.out.cell (World.block_lt_of_cell? w _ hx511_1)).trans hx511_1; replace hx511_2 := (HB.out.cell (World.block_lt_of_cell? w _ hx511_2)).trans hx511_2; replace p511 := eq_true p511; replace q511 := eq_true q511))
       repeat (go_quiet (first | (go_at_call 40; (with_reducible refine (spec_faTwo.calls k _ _ l0 a1 a2 true _ ?side1 ?side2 A4.out).mono ?_); (case side1 => exact kD HR0); (case side2 => exact HC0.out); rintro e w13 ⟨rfl, hb⟩; replace HB := kH HB hb; (try clear hb)) | (go_at_call 57; (with_reducible refine (spec_faParents.calls k _ _ l0 a2 t506 _ ?side1 ?side2 A6.out).mono ?_); (case side1 => exact kDb HR0); (case side2 => exact HC0.out); rintro e w14 ⟨v507, rfl, ho0, hb⟩; have n0_ := Aside0.mk (Kd.R_lower ho0 (below_size kO)); have n1_ := kH HB hb; clear HB; have HO508 := n0_; have HB := n1_; clear n0_ n1_; (try clear hb); (try clear ho0); obtain ⟨Ao15, co15, eo15⟩ := Kd.R_slice HO508.out; subst eo15) | (go_at_call 56; (with_reducible refine (spec_l1Has.calls k _ _ t506 a1 true _ ?side1 ?side2 A7.out).mono ?_); (case side1 => exact kDo HO508); (case side2 => exact (Kd.R_reads' HO508.out).2.1); rintro e w' ⟨rfl, ⟨nd, rfl⟩⟩; (try first | exact ⟨rfl, _, World.drewN_drewN _ _ _⟩ | exact ⟨rfl, _, Eq.trans (World.drewN_drewN _ _ _) (congrArg (World.drewN _) (Nat.add_assoc _ _ _))⟩); have p510 : 0 ≤ (a2 : Int) := of_decide_eq_true (by first | (with_reducible assumption) | assumption); have q510 : a2 < (l0.length : Int) := of_decide_eq_true (by first | (with_reducible assumption) | assumption); obtain ⟨ad510, e510, hx510_0, hx510_1, hx510_2⟩ := at_T41 HR0.out a2 p510 q510; cases e510; replace hx510_0 := (HB.out.cell (World.block_lt_of_cell? w _ hx510_0)).trans hx510_0; replace hx510_1 := (HB.out.cell (World.block_lt_of_cell? w _ hx510_1)).trans hx510_1; replace hx510_2 := (HB.out.cell (World.block_lt_of_cell? w _ hx510_2)).trans hx510_2; replace p510 := eq_true p510; replace q510 := eq_true q510; have p511 : 0 ≤ (a1 : Int) := of_decide_eq_true (by first | (with_reducible assumption) | assumption); have q511 : a1 < (l0.length : Int) := of_decide_eq_true (by first | (with_reducible assumption) | assumption); obtain ⟨ad511, e511, hx511_0, hx511_1, hx511_2⟩ := at_T41 HR0.out a1 p511 q511; obtain rfl : ad510 = ad511 := (by injection e511); replace hx511_0 := (HB.out.cell (World.block_lt_of_cell? w _ hx511_0)).trans hx511_0; replace hx511_1 := (HB.out.cell (World.block_lt_of_cell? w _ hx511_1)).trans hx511_1; replace hx511_2 := (HB.out.cell (World.block_lt_of_cell? w _ hx511_2)).trans hx511_2; replace p511 := eq_true p511; replace q511 := eq_true q511)); try go_wp2_with (first | (go_at_call 40; (with_reducible refine (spec_faTwo.calls k _ _ l0 a1 a2 true _ ?side1 ?side2 A4.out).mono ?_); (case side1 => exact kD HR0); (case side2 => exact HC0.out); rintro e w13 ⟨rfl, hb⟩; replace HB := kH HB hb; (try clear hb)) | (go_at_call 57; (with_reducible refine (spec_faParents.calls k _ _ l0 a2 t506 _ ?side1 ?side2 A6.out).mono ?_); (case side1 => exact kDb HR0); (case side2 => exact HC0.out); rintro e w14 ⟨v507, rfl, ho0, hb⟩; have n0_ := Aside0.mk (Kd.R_lower ho0 (below_size kO)); have n1_ := kH HB hb; clear HB; have HO508 := n0_; have HB := n1_; clear n0_ n1_; (try clear hb); (try clear ho0); obtain ⟨Ao15, co15, eo15⟩ := Kd.R_slice HO508.out; subst eo15) | (go_at_call 56; (with_reducible refine (spec_l1Has.calls k _ _ t506 a1 true _ ?side1 ?side2 A7.out).mono ?_); (case side1 => exact kDo HO508); (case side2 => exact (Kd.R_reads' HO508.out).2.1); rintro e w' ⟨rfl, ⟨nd, rfl⟩⟩; (try first | exact ⟨rfl, _, World.drewN_drewN _ _ _⟩ | exact ⟨rfl, _, Eq.trans (World.drewN_drewN _ _ _) (congrArg (World.drewN _) (Nat.add_assoc _ _ _))⟩); have p510 : 0 ≤ (a2 : Int) := of_decide_eq_true (by first | (with_reducible assumption) | assumption); have q510 : a2 < (l0.length : Int) := of_decide_eq_true (by first | (with_reducible assumption) | assumption); obtain ⟨ad510, e510, hx510_0, hx510_1, hx510_2⟩ := at_T41 HR0.out a2 p510 q510; cases e510; replace hx510_0 := (HB.out.cell (World.block_lt_of_cell? w _ hx510_0)).trans hx510_0; replace hx510_1 := (HB.out.cell (World.block_lt_of_cell? w _ hx510_1)).trans hx510_1; replace hx510_2 := (HB.out.cell (World.block_lt_of_cell? w _ hx510_2)).trans hx510_2; replace p510 := eq_true p510; replace q510 := eq_true q510; have p511 : 0 ≤ (a1 : Int) := of_decide_eq_true (by first | (with_reducible assumption) | assumption); have q511 : a1 < (l0.length : Int) := of_decide_eq_true (by first | (with_reducible assumption) | assumption); obtain ⟨ad511, e511, hx511_0, hx511_1, hx511_2⟩ := at_T41 HR0.out a1 p511 q511; obtain rfl : ad510 = ad511 := (by injection e511); replace hx511_0 := (HB.out.cell (World.block_lt_of_cell? w _ hx511_0)).trans hx511_0; replace hx511_1 := (HB.out.cell (World.block_lt_of_cell? w _ hx511_1)).trans hx511_1; replace hx511_2 := (HB.out.cell (World.block_lt_of_cell? w _ hx511_2)).trans hx511_2; replace p511 := eq_true p511; replace q511 := eq_true q511)))
       go_ret2
       exact ⟨kZ, kO⟩
      ·rw [if_neg c12] at H
       exact absurd H (by simp)
     ·rw [if_neg c11] at H
      exact absurd H (by simp)
    ·rw [if_neg c10] at H
     exact absurd H (by simp)
   ·rw [if_neg c9] at H
    exact absurd H (by simp)
  ·replace c8 := Bool.eq_false_iff.mpr c8
   subst c8
   rw [if_neg (show ¬ (false = true) by decide)] at H
   simp only [Option.some.injEq, Prod.mk.injEq] at H
   obtain ⟨rfl, rfl⟩ := H
   go_enter Tryz.func21, Tryz.ntmps21
   go_wp2_with (first | (go_at_call 40; (with_reducible refine (spec_faTwo.calls k _ _ l0 a1 a2 true _ ?side1 ?side2 A4.out).mono ?_); (case side1 => exact kD HR0); (case side2 => exact HC0.out); rintro e w16 ⟨rfl, hb⟩; replace HB := kH HB hb; (try clear hb)) | (go_at_call 57; (with_reducible refine (spec_faParents.calls k _ _ l0 a2 t506 _ ?side1 ?side2 A6.out).mono ?_); (case side1 => exact kDb HR0); (case side2 => exact HC0.out); rintro e w17 ⟨v507, rfl, ho0, hb⟩; have n0_ := Aside0.mk (Kd.R_lower ho0 (below_size kO)); have n1_ := kH HB hb; clear HB; have HO508 := n0_; have HB := n1_; clear n0_ n1_; (try clear hb); (try clear ho0); obtain ⟨Ao18, co18, eo18⟩ := Kd.R_slice HO508.out; subst eo18) | (go_at_call 56; (with_reducible refine (spec_l1Has.calls k _ _ t506 a1 false _ ?side1 ?side2 A7.out).mono ?_); (case side1 => exact kDo HO508); (case side2 => exact (Kd.R_reads' HO508.out).2.1); rintro e w' ⟨rfl, ⟨nd, rfl⟩⟩; (try first | exact ⟨rfl, _, World.drewN_drewN _ _ _⟩ | exact ⟨rfl, _, Eq.trans (World.drewN_drewN _ _ _) (congrArg (World.drewN _) (Nat.add_assoc _ _ _))⟩)))
   repeat (go_quiet (first | (go_at_call 40; (with_reducible refine (spec_faTwo.calls k _ _ l0 a1 a2 true _ ?side1 ?side2 A4.out).mono ?_); (case side1 => exact kD HR0); (case side2 => exact HC0.out); rintro e w16 ⟨rfl, hb⟩; replace HB := kH HB hb; (try clear hb)) | (go_at_call 57; (with_reducible refine (spec_faParents.calls k _ _ l0 a2 t506 _ ?side1 ?side2 A6.out).mono ?_); (case side1 => exact kDb HR0); (case side2 => exact HC0.out); rintro e w17 ⟨v507, rfl, ho0, hb⟩; have n0_ := Aside0.mk (Kd.R_lower ho0 (below_size kO)); have n1_ := kH HB hb; clear HB; have HO508 := n0_; have HB := n1_; clear n0_ n1_; (try clear hb); (try clear ho0); obtain ⟨Ao18, co18, eo18⟩ := Kd.R_slice HO508.out; subst eo18) | (go_at_call 56; (with_reducible refine (spec_l1Has.calls k _ _ t506 a1 false _ ?side1 ?side2 A7.out).mono ?_); (case side1 => exact kDo HO508); (case side2 => exact (Kd.R_reads' HO508.out).2.1); rintro e w' ⟨rfl, ⟨nd, rfl⟩⟩; (try first | exact ⟨rfl, _, World.drewN_drewN _ _ _⟩ | exact ⟨rfl, _, Eq.trans (World.drewN_drewN _ _ _) (congrArg (World.drewN _) (Nat.add_assoc _ _ _))⟩))); try go_wp2_with (first | (go_at_call 40; (with_reducible refine (spec_faTwo.calls k _ _ l0 a1 a2 true _ ?side1 ?side2 A4.out).mono ?_); (case side1 => exact kD HR0); (case side2 => exact HC0.out); rintro e w16 ⟨rfl, hb⟩; replace HB := kH HB hb; (try clear hb)) | (go_at_call 57; (with_reducible refine (spec_faParents.calls k _ _ l0 a2 t506 _ ?side1 ?side2 A6.out).mono ?_); (case side1 => exact kDb HR0); (case side2 => exact HC0.out); rintro e w17 ⟨v507, rfl, ho0, hb⟩; have n0_ := Aside0.mk (Kd.R_lower ho0 (below_size kO)); have n1_ := kH HB hb; clear HB; have HO508 := n0_; have HB := n1_; clear n0_ n1_; (try clear hb); (try clear ho0); obtain ⟨Ao18, co18, eo18⟩ := Kd.R_slice HO508.out; subst eo18) | (go_at_call 56; (with_reducible refine (spec_l1Has.calls k _ _ t506 a1 false _ ?side1 ?side2 A7.out).mono ?_); (case side1 => exact kDo HO508); (case side2 => exact (Kd.R_reads' HO508.out).2.1); rintro e w' ⟨rfl, ⟨nd, rfl⟩⟩; (try first | exact ⟨rfl, _, World.drewN_drewN _ _ _⟩ | exact ⟨rfl, _, Eq.trans (World.drewN_drewN _ _ _) (congrArg (World.drewN _) (Nat.add_assoc _ _ _))⟩))))
   go_ret2
   exact ⟨kZ, kO⟩
 ·replace c5 := Bool.eq_false_iff.mpr c5
  subst c5
  rw [if_neg (show ¬ (false = true) by decide)] at H
  simp only [Option.some.injEq, Prod.mk.injEq] at H
  obtain ⟨rfl, rfl⟩ := H
  go_enter Tryz.func21, Tryz.ntmps21
  go_wp2_with (first | (go_at_call 40; (with_reducible refine (spec_faTwo.calls k _ _ l0 a1 a2 false _ ?side1 ?side2 A4.out).mono ?_); (case side1 => exact kD HR0); (case side2 => exact HC0.out); rintro e w19 ⟨rfl, hb⟩; replace HB := kH HB hb; (try clear hb)))
  repeat (go_quiet (first | (go_at_call 40; (with_reducible refine (spec_faTwo.calls k _ _ l0 a1 a2 false _ ?side1 ?side2 A4.out).mono ?_); (case side1 => exact kD HR0); (case side2 => exact HC0.out); rintro e w19 ⟨rfl, hb⟩; replace HB := kH HB hb; (try clear hb))); try go_wp2_with (first | (go_at_call 40; (with_reducible refine (spec_faTwo.calls k _ _ l0 a1 a2 false _ ?side1 ?side2 A4.out).mono ?_); (case side1 => exact kD HR0); (case side2 => exact HC0.out); rintro e w19 ⟨rfl, hb⟩; replace HB := kH HB hb; (try clear hb))))
  go_ret2
  exact ⟨kZ, kO⟩

/-! ### laws_qSame: function 22 -/
def laws_qSame.l0 : Nat → List Int → List Int → Int → Int → Option (Bool)
 | 0, _, _, _, _ => none
 | k + 1, x0, x1, x12, x13 => if x13 < x12 then (if 0 ≤ x13 then (if x13 < (x0.length : Int) then (if x13 < (x1.length : Int) then (if (rd x0 x13) = (rd x1 x13) then (laws_qSame.l0 k x0 x1 x12 (wrap64 (x13 + 1))) else (some false)) else (none)) else (none)) else (none)) else (some true)
def laws_qSame.f (k : Nat) (l0 : List Int) (l1 : List Int) : Option (Bool) := if (l0.length : Int) = (l1.length : Int) then (laws_qSame.l0 k l0 l1 (l0.length : Int) 0) else (some false)
set_option maxHeartbeats 8000000 in
set_option maxRecDepth 100000 in
theorem laws_qSame.calls (k : Nat) (A0 : Option Addr) (c0 : Nat) (l0 : List Int) (A1 : Option Addr) (c1 : Nat) (l1 : List Int) (r : Bool) (w : World) (hr0 : Kd.C (Kd.int .i64) w A0 l0.length l0) (hc0 : l0.length ≤ c0) (hr1 : Kd.C (Kd.int .i64) w A1 l1.length l1) (hc1 : l1.length ≤ c1) (h : laws_qSame.f k l0 l1 = some r) :
  Calls Tryz.prog 22 #[.slice A0 l0.length c0, .slice A1 l1.length c1] w fun e w' => e = .returned (.bool r) ∧ Drawn0 w w' := by
 have HR0 := Aside0.mk hr0
 have HC0 := Aside0.mk hc0
 clear hr0 hc0
 have HR1 := Aside0.mk hr1
 have HC1 := Aside0.mk hc1
 clear hr1 hc1
 have H : (if (l0.length : Int) = (l1.length : Int) then (laws_qSame.l0 k l0 l1 (l0.length : Int) 0) else (some false)) = some r := h
 clear h
 by_cases c3 : (l0.length : Int) = (l1.length : Int)
 ·rw [if_pos c3] at H
  have c3b0 : ((l0.length : Int) == (l1.length : Int)) = true := beq_iff_eq.mpr c3
  have c3b1 : ((l0.length : Int) != (l1.length : Int)) = false := bne_eq_false_iff_eq.mpr c3
  have c3b2 : (l0.length == l1.length) = true := by first | simpa using c3 | (simp at c3 ⊢; omega)
  clear c3
  have H' := Aside0.mk H
  clear H
  go_enter Tryz.func22, Tryz.ntmps22
  go_wp2
  repeat (go_quiet (fail); try go_wp2)
  go_loopg [13] k (fun kq v13 w' => ∃ (x13_1 : Int), v13 = .int .i64 x13_1 ∧ Aside0 (laws_qSame.l0 kq l0 l1 (l0.length : Int) x13_1 = some r) ∧ Aside0 (kq ≤ k) ∧ Drawn0 w w')
  case atStart => exact ⟨(0), kY, H', ⟨Nat.le_refl _⟩, by repeat (first | exact Drawn0.refl _ | apply Drawn0.step)⟩
  case round =>
   clear H'
   try clear c1
   try clear c3
   try clear c3b0
   try clear c3b1
   try clear c3b2
   obtain ⟨x13_1, rfl, HA, HK1, ⟨m1, rfl⟩⟩ := hrel
   cases gk with
   | zero => exact absurd HA.out (by simp [laws_qSame.l0])
   | succ k1 =>
    have H := HA.out
    clear HA
    simp only [laws_qSame.l0] at H
    by_cases c4 : x13_1 < (l0.length : Int)
    ·rw [if_pos c4] at H
     have c4b0 : decide (x13_1 < (l0.length : Int)) = true := decide_eq_true c4
     clear c4
     by_cases c5 : 0 ≤ x13_1
     ·rw [if_pos c5] at H
      have c5b0 : decide (0 ≤ x13_1) = true := decide_eq_true c5
      clear c5
      by_cases c6 : x13_1 < (l0.length : Int)
      ·rw [if_pos c6] at H
       have c6b0 : decide (x13_1 < (l0.length : Int)) = true := decide_eq_true c6
       clear c6
       by_cases c7 : x13_1 < (l1.length : Int)
       ·rw [if_pos c7] at H
        have c7b0 : decide (x13_1 < (l1.length : Int)) = true := decide_eq_true c7
        clear c7
        by_cases c8 : (rd l0 x13_1) = (rd l1 x13_1)
        ·rw [if_pos c8] at H
         have c8b0 : ((rd l0 x13_1) == (rd l1 x13_1)) = true := beq_iff_eq.mpr c8
         have c8b1 : ((rd l0 x13_1) != (rd l1 x13_1)) = false := bne_eq_false_iff_eq.mpr c8
         clear c8
         have H' := Aside0.mk H
         clear H
         have p512 : 0 ≤ (x13_1 : Int) := of_decide_eq_true (by first | (with_reducible assumption) | assumption)
         have q512 : x13_1 < (l0.length : Int) := of_decide_eq_true (by first | (with_reducible assumption) | assumption)
         obtain ⟨ad512, e512, hx512_0⟩ := Kd.at_int HR0.out x13_1 p512 q512
         cases e512
         replace p512 := eq_true p512
         replace q512 := eq_true q512
         have p513 : 0 ≤ (x13_1 : Int) := of_decide_eq_true (by first | (with_reducible assumption) | assumption)
         have q513 : x13_1 < (l1.length : Int) := of_decide_eq_true (by first | (with_reducible assumption) | assumption)
         obtain ⟨ad513, e513, hx513_0⟩ := Kd.at_int HR1.out x13_1 p513 q513
         cases e513
         replace p513 := eq_true p513
         replace q513 := eq_true q513
         go_wp2
         repeat (go_quiet (fail); try go_wp2)
         go_roundg k1
         case measure => have := HK1.out; omega
         case rel => exact ⟨(wrap64 (x13_1 + 1)), kY, H', ⟨by have := HK1.out; omega⟩, by repeat (first | exact Drawn0.refl _ | apply Drawn0.step)⟩
        ·rw [if_neg c8] at H
         have c8b0 : ((rd l0 x13_1) == (rd l1 x13_1)) = false := beq_eq_false_iff_ne.mpr c8
         have c8b1 : ((rd l0 x13_1) != (rd l1 x13_1)) = true := bne_iff_ne.mpr c8
         obtain rfl := Option.some.inj H
         have p512 : 0 ≤ (x13_1 : Int) := of_decide_eq_true (by first | (with_reducible assumption) | assumption)
         have q512 : x13_1 < (l0.length : Int) := of_decide_eq_true (by first | (with_reducible assumption) | assumption)
         obtain ⟨ad512, e512, hx512_0⟩ := Kd.at_int HR0.out x13_1 p512 q512
         cases e512
         replace p512 := eq_true p512
         replace q512 := eq_true q512
         have p513 : 0 ≤ (x13_1 : Int) := of_decide_eq_true (by first | (with_reducible assumption) | assumption)
         have q513 : x13_1 < (l1.length : Int) := of_decide_eq_true (by first | (with_reducible assumption) | assumption)
         obtain ⟨ad513, e513, hx513_0⟩ := Kd.at_int HR1.out x13_1 p513 q513
         cases e513
         replace p513 := eq_true p513
         replace q513 := eq_true q513
         go_wp2
         repeat (go_quiet (fail); try go_wp2)
         go_ret
         exact ⟨by first | rfl | (simp; done) | (simp [*]; done), by repeat (first | exact Drawn0.refl _ | apply Drawn0.step)⟩
       ·rw [if_neg c7] at H
        exact absurd H (by simp)
      ·rw [if_neg c6] at H
       exact absurd H (by simp)
     ·rw [if_neg c5] at H
      exact absurd H (by simp)
    ·rw [if_neg c4] at H
     have c4b0 : decide (x13_1 < (l0.length : Int)) = false := decide_eq_false c4
     clear c4
     obtain rfl := Option.some.inj H
     go_wp2
     repeat (go_quiet (fail); try go_wp2)
     go_ret
     exact ⟨by first | rfl | (simp; done) | (simp [*]; done), by repeat (first | exact Drawn0.refl _ | apply Drawn0.step)⟩
 ·rw [if_neg c3] at H
  have c3b0 : ((l0.length : Int) == (l1.length : Int)) = false := beq_eq_false_iff_ne.mpr c3
  have c3b1 : ((l0.length : Int) != (l1.length : Int)) = true := bne_iff_ne.mpr c3
  have c3b2 : (l0.length == l1.length) = false := by first | simpa using c3 | (simp at c3 ⊢; omega)
  obtain rfl := Option.some.inj H
  go_enter Tryz.func22, Tryz.ntmps22
  go_wp2
  repeat (go_quiet (fail); try go_wp2)
  go_ret
  exact ⟨by first | rfl | (simp; done) | (simp [*]; done), by repeat (first | exact Drawn0.refl _ | apply Drawn0.step)⟩

/-! ### impl_AncestorsOf: function 23 -/
def impl_AncestorsOf.f (k : Nat) (l0 : List (S41)) (a1 : Int) : Option (List Int × Bool) := (impl_hasKin.f k l0 (([a1] : List Int))).bind fun t517 => (if t517 = true then ((impl_ancestors.f k l0 a1).bind fun t518 => (some (t518, true))) else (some (([] : List Int), false)))
set_option maxHeartbeats 8000000 in
set_option maxRecDepth 100000 in
theorem impl_AncestorsOf.calls (k : Nat) (A0 : Option Addr) (c0 : Nat) (l0 : List (S41)) (a1 : Int) (r1 : List Int) (r2 : Bool) (w : World) (hr0 : Kd.C k41 w A0 l0.length l0) (hc0 : l0.length ≤ c0) (h : impl_AncestorsOf.f k l0 a1 = some (r1, r2)) :
  Calls Tryz.prog 23 #[.slice A0 l0.length c0, .int .i64 a1] w fun e w' => ∃ v0_ : Value, e = .returned (.tuple #[v0_, .bool r2]) ∧ Kd.R (Kd.int .i64) 3 w' w.heap.size (fun _ => True) v0_ r1 ∧ Below w.heap.size w w' := by
 have HR0 := Aside0.mk hr0
 have HC0 := Aside0.mk hc0
 clear hr0 hc0
 have HB := Aside0.mk (Below.refl w.heap.size w)
 have H : ((impl_hasKin.f k l0 (([a1] : List Int))).bind fun t517 => (if t517 = true then ((impl_ancestors.f k l0 a1).bind fun t518 => (some (t518, true))) else (some (([] : List Int), false)))) = some (r1, r2) := h
 clear h
 obtain ⟨y514, hy514⟩ : ∃ y_ : List Int, y_ = (([a1] : List Int)) := ⟨_, rfl⟩
 replace H : ((impl_hasKin.f k l0 y514).bind fun t517 => (if t517 = true then ((impl_ancestors.f k l0 a1).bind fun t518 => (some (t518, true))) else (some (([] : List Int), false)))) = some (r1, r2) := by first | (rw [hy514]; with_reducible exact H) | (have H2_ := (Option.bind_some _ _).symm.trans H; rw [hy514]; with_reducible exact H2_) | (have H2_ := (Option.bind_some _ _).symm.trans H; with_reducible exact H2_) | with_reducible exact H | (rw [hy514]; exact H) | exact H
 have Ny514 := Aside0.mk hy514
 clear hy514
 replace H := Option.bind_eq_some_iff.mp H
 obtain ⟨t517, A30, H⟩ := H
 have A3 := Aside0.mk A30
 clear A30
 by_cases c4 : t517 = true
 ·subst c4
  rw [if_pos rfl] at H
  replace H := Option.bind_eq_some_iff.mp H
  obtain ⟨t518, A50, H⟩ := H
  have A5 := Aside0.mk A50
  clear A50
  simp only [Option.some.injEq, Prod.mk.injEq] at H
  obtain ⟨rfl, rfl⟩ := H
  go_enter Tryz.func23, Tryz.ntmps23
  go_wp2_with (first | ((with_reducible refine gate_dst (N := 8) rfl ?_); refine Kd.R_lit (Kd.int .i64) _ 3 ?hg (N := 8) ?hd (xs := ([a1] : List Int)) (inner := [.int .i64 a1]) (ok := fun _ => True) (okp := fun _ => True) ?hr ?hp (fun _ hk => hk) trivial (Below.refl _ _) (Nat.le_refl _) (by simp) ?_; (case hd => rfl); (case hg => rfl); (case hr => first | (go_simp; done) | (go_simp; rfl)); (case hp => exact (Reps.one (show Kd.M (Kd.int .i64) _ _ _ a1 [.int .i64 a1] from rfl) (Reps.none _ _))); intro v515 w6 ho7 hb hg_ hnew_; clear hg_ hnew_; (first | rw [← Ny514.out] at ho7 | (simp only [Int.reduceToNat] at ho7; rw [← Ny514.out] at ho7)); have n0_ := Aside0.mk (Kd.R_lower ho7 (below_size kO)); have n1_ := kH HB hb; clear HB; have HO516 := n0_; have HB := n1_; clear n0_ n1_; clear hb ho7; obtain ⟨Ao8, co8, eo8⟩ := Kd.R_slice HO516.out; subst eo8) | ((with_reducible refine gate_callee (f := 31) rfl ?_); refine kE (some 9) Tryz.func31 #[.slice A0 l0.length c0, .slice Ao8 y514.length co8] rfl ?_; (with_reducible refine (impl_hasKin.calls k _ _ l0 _ _ y514 true _ ?side1 ?side2 ?side3 ?side4 A3.out).mono ?_); (case side1 => exact kDb HR0); (case side2 => exact HC0.out); (case side3 => exact kDo HO516); (case side4 => exact (Kd.R_reads' HO516.out).2.1); rintro e w9 ⟨rfl, hb⟩; refine ⟨_, rfl, ?_⟩; have n0_ := Aside0.mk (Kd.R_below (kW HO516) hb); have n1_ := kH HB hb; clear HO516; clear HB; have HO516 := n0_; have HB := n1_; clear n0_ n1_; (try clear hb)) | ((with_reducible refine gate_callee (f := 38) rfl ?_); refine kE (some 13) Tryz.func38 #[.slice A0 l0.length c0, .int .i64 a1] rfl ?_; (with_reducible refine (impl_ancestors.calls k _ _ l0 a1 t518 _ ?side1 ?side2 A5.out).mono ?_); (case side1 => exact kDb HR0); (case side2 => exact HC0.out); rintro e w10 ⟨v519, rfl, ho0, hb⟩; refine ⟨_, rfl, ?_⟩; have n0_ := Aside0.mk (Kd.R_elder' (kW HO516) (Kd.R_base ho0) hb); have n1_ := Aside0.mk (Kd.R_lower (Kd.R_new' ho0 (Kd.R_lt (kW HO516))) (below_size kO)); have n2_ := kH HB hb; clear HO516; clear HB; have HO516 := n0_; have HO520 := n1_; have HB := n2_; clear n0_ n1_ n2_; (try clear hb); (try clear ho0)))
  go_ret2
  exact ⟨_, kZ, by (with_reducible repeat (first | apply Kd.R_alloc | apply Kd.R_drewN | apply Kd.R_drew)); exact Kd.R_mono HO520.out (fun _ hk => trivial), kO⟩
 ·replace c4 := Bool.eq_false_iff.mpr c4
  subst c4
  rw [if_neg (show ¬ (false = true) by decide)] at H
  simp only [Option.some.injEq, Prod.mk.injEq] at H
  obtain ⟨rfl, rfl⟩ := H
  go_enter Tryz.func23, Tryz.ntmps23
  go_wp2_with (first | ((with_reducible refine gate_dst (N := 8) rfl ?_); refine Kd.R_lit (Kd.int .i64) _ 3 ?hg (N := 8) ?hd (xs := ([a1] : List Int)) (inner := [.int .i64 a1]) (ok := fun _ => True) (okp := fun _ => True) ?hr ?hp (fun _ hk => hk) trivial (Below.refl _ _) (Nat.le_refl _) (by simp) ?_; (case hd => rfl); (case hg => rfl); (case hr => first | (go_simp; done) | (go_simp; rfl)); (case hp => exact (Reps.one (show Kd.M (Kd.int .i64) _ _ _ a1 [.int .i64 a1] from rfl) (Reps.none _ _))); intro v515 w11 ho12 hb hg_ hnew_; clear hg_ hnew_; (first | rw [← Ny514.out] at ho12 | (simp only [Int.reduceToNat] at ho12; rw [← Ny514.out] at ho12)); have n0_ := Aside0.mk (Kd.R_lower ho12 (below_size kO)); have n1_ := kH HB hb; clear HB; have HO516 := n0_; have HB := n1_; clear n0_ n1_; clear hb ho12; obtain ⟨Ao13, co13, eo13⟩ := Kd.R_slice HO516.out; subst eo13) | ((with_reducible refine gate_callee (f := 31) rfl ?_); refine kE (some 9) Tryz.func31 #[.slice A0 l0.length c0, .slice Ao13 y514.length co13] rfl ?_; (with_reducible refine (impl_hasKin.calls k _ _ l0 _ _ y514 false _ ?side1 ?side2 ?side3 ?side4 A3.out).mono ?_); (case side1 => exact kDb HR0); (case side2 => exact HC0.out); (case side3 => exact kDo HO516); (case side4 => exact (Kd.R_reads' HO516.out).2.1); rintro e w14 ⟨rfl, hb⟩; refine ⟨_, rfl, ?_⟩; have n0_ := Aside0.mk (Kd.R_below (kW HO516) hb); have n1_ := kH HB hb; clear HO516; clear HB; have HO516 := n0_; have HB := n1_; clear n0_ n1_; (try clear hb)))
  go_ret2
  exact ⟨_, kZ, by first | exact Kd.R_nil _ _ _ _ _ | exact Kd.N_nil _ _ _ _ _ | exact Kd.V_nil _ _ _ _ _ | exact Kd.Q_nil _ _ _ _ _ | exact Kd.S_nil _ _ _ _ _, kO⟩

/-! ### laws_qRises: function 24 -/
def laws_qRises.l0 : Nat → List Int → Int → Option (Bool)
 | 0, _, _ => none
 | k + 1, x0, x3 => if x3 < (x0.length : Int) then (if 0 ≤ (wrap64 (x3 - 1)) then (if (wrap64 (x3 - 1)) < (x0.length : Int) then (if 0 ≤ x3 then (if (rd x0 (wrap64 (x3 - 1))) ≥ (rd x0 x3) then (some false) else (laws_qRises.l0 k x0 (wrap64 (x3 + 1)))) else (none)) else (none)) else (none)) else (some true)
def laws_qRises.f (k : Nat) (l0 : List Int) : Option (Bool) := laws_qRises.l0 k l0 1
set_option maxHeartbeats 8000000 in
set_option maxRecDepth 100000 in
theorem laws_qRises.calls (k : Nat) (A0 : Option Addr) (c0 : Nat) (l0 : List Int) (r : Bool) (w : World) (hr0 : Kd.C (Kd.int .i64) w A0 l0.length l0) (hc0 : l0.length ≤ c0) (h : laws_qRises.f k l0 = some r) :
  Calls Tryz.prog 24 #[.slice A0 l0.length c0] w fun e w' => e = .returned (.bool r) ∧ Drawn0 w w' := by
 have HR0 := Aside0.mk hr0
 have HC0 := Aside0.mk hc0
 clear hr0 hc0
 have H : (laws_qRises.l0 k l0 1) = some r := h
 clear h
 have H' := Aside0.mk H
 clear H
 go_enter Tryz.func24, Tryz.ntmps24
 go_wp2
 repeat (go_quiet (fail); try go_wp2)
 go_loopg [3] k (fun kq v3 w' => ∃ (x3_1 : Int), v3 = .int .i64 x3_1 ∧ Aside0 (laws_qRises.l0 kq l0 x3_1 = some r) ∧ Aside0 (kq ≤ k) ∧ Drawn0 w w')
 case atStart => exact ⟨(1), kY, H', ⟨Nat.le_refl _⟩, by repeat (first | exact Drawn0.refl _ | apply Drawn0.step)⟩
 case round =>
  clear H'
  obtain ⟨x3_1, rfl, HA, HK1, ⟨m1, rfl⟩⟩ := hrel
  cases gk with
  | zero => exact absurd HA.out (by simp [laws_qRises.l0])
  | succ k1 =>
   have H := HA.out
   clear HA
   simp only [laws_qRises.l0] at H
   by_cases c2 : x3_1 < (l0.length : Int)
   ·rw [if_pos c2] at H
    have c2b0 : decide (x3_1 < (l0.length : Int)) = true := decide_eq_true c2
    clear c2
    obtain ⟨ji3, hji3⟩ : ∃ j_ : Int, (wrap64 (x3_1 - 1)) = j_ := ⟨_, rfl⟩
    replace H : (if 0 ≤ (ji3) then (if (ji3) < (l0.length : Int) then (if 0 ≤ x3_1 then (if (rd l0 (ji3)) ≥ (rd l0 x3_1) then (some false) else (laws_qRises.l0 k1 l0 (wrap64 (x3_1 + 1)))) else (none)) else (none)) else (none)) = some r := by first | (rw [hji3] at H; exact H) | (simp only [hji3] at H ⊢; exact H)
    have hji3w : (IntKind.i64.wrap (x3_1 - 1)) = ji3 := (i64_w _).trans hji3
    by_cases c4 : 0 ≤ (ji3)
    ·rw [if_pos c4] at H
     have c4b0 : decide (0 ≤ (ji3)) = true := decide_eq_true c4
     clear c4
     by_cases c5 : (ji3) < (l0.length : Int)
     ·rw [if_pos c5] at H
      have c5b0 : decide ((ji3) < (l0.length : Int)) = true := decide_eq_true c5
      clear c5
      by_cases c6 : 0 ≤ x3_1
      ·rw [if_pos c6] at H
       have c6b0 : decide (0 ≤ x3_1) = true := decide_eq_true c6
       clear c6
       by_cases c7 : (rd l0 (ji3)) ≥ (rd l0 x3_1)
       ·rw [if_pos c7] at H
        have c7b0 : decide ((rd l0 x3_1) ≤ (rd l0 (ji3))) = true := decide_eq_true c7
        clear c7
        obtain rfl := Option.some.inj H
        have p521 : 0 ≤ ((ji3) : Int) := of_decide_eq_true (by first | (with_reducible assumption) | assumption)
        have q521 : (ji3) < (l0.length : Int) := of_decide_eq_true (by first | (with_reducible assumption) | assumption)
        obtain ⟨ad521, e521, hx521_0⟩ := Kd.at_int HR0.out (ji3) p521 q521
        cases e521
        replace p521 := eq_true p521
        replace q521 := eq_true q521
        have p522 : 0 ≤ (x3_1 : Int) := of_decide_eq_true (by first | (with_reducible assumption) | assumption)
        have q522 : x3_1 < (l0.length : Int) := of_decide_eq_true (by first | (with_reducible assumption) | assumption)
        obtain ⟨ad522, e522, hx522_0⟩ := Kd.at_int HR0.out x3_1 p522 q522
        obtain rfl : ad521 = ad522 := (by injection e522)
        replace p522 := eq_true p522
        replace q522 := eq_true q522
        go_wp2
        repeat (go_quiet (fail); try go_wp2)
        go_ret
        exact ⟨by first | rfl | (simp; done) | (simp only [← hji3] <;> (first | rfl | simp)) | (simp [*]; done), by repeat (first | exact Drawn0.refl _ | apply Drawn0.step)⟩
       ·rw [if_neg c7] at H
        have c7b0 : decide ((rd l0 x3_1) ≤ (rd l0 (ji3))) = false := decide_eq_false c7
        clear c7
        have H' := Aside0.mk H
        clear H
        have p521 : 0 ≤ ((ji3) : Int) := of_decide_eq_true (by first | (with_reducible assumption) | assumption)
        have q521 : (ji3) < (l0.length : Int) := of_decide_eq_true (by first | (with_reducible assumption) | assumption)
        obtain ⟨ad521, e521, hx521_0⟩ := Kd.at_int HR0.out (ji3) p521 q521
        cases e521
        replace p521 := eq_true p521
        replace q521 := eq_true q521
        have p522 : 0 ≤ (x3_1 : Int) := of_decide_eq_true (by first | (with_reducible assumption) | assumption)
        have q522 : x3_1 < (l0.length : Int) := of_decide_eq_true (by first | (with_reducible assumption) | assumption)
        obtain ⟨ad522, e522, hx522_0⟩ := Kd.at_int HR0.out x3_1 p522 q522
        obtain rfl : ad521 = ad522 := (by injection e522)
        replace p522 := eq_true p522
        replace q522 := eq_true q522
        go_wp2
        repeat (go_quiet (fail); try go_wp2)
        go_roundg k1
        case measure => have := HK1.out; omega
        case rel => exact ⟨(wrap64 (x3_1 + 1)), kY, H', ⟨by have := HK1.out; omega⟩, by repeat (first | exact Drawn0.refl _ | apply Drawn0.step)⟩
      ·rw [if_neg c6] at H
       exact absurd H (by simp)
     ·rw [if_neg c5] at H
      exact absurd H (by simp)
    ·rw [if_neg c4] at H
     exact absurd H (by simp)
   ·rw [if_neg c2] at H
    have c2b0 : decide (x3_1 < (l0.length : Int)) = false := decide_eq_false c2
    clear c2
    obtain rfl := Option.some.inj H
    go_wp2
    repeat (go_quiet (fail); try go_wp2)
    go_ret
    exact ⟨by first | rfl | (simp; done) | (simp [*]; done), by repeat (first | exact Drawn0.refl _ | apply Drawn0.step)⟩

/-! ### laws_qHas: function 25 -/
def laws_qHas.l0 : Nat → Int → List Int → Int → Int → Option (Bool)
 | 0, _, _, _, _ => none
 | k + 1, x1, x7, x8, x9 => if x9 < x8 then (if 0 ≤ x9 then (if x9 < (x7.length : Int) then (if (rd x7 x9) = x1 then (some true) else (laws_qHas.l0 k x1 x7 x8 (wrap64 (x9 + 1)))) else (none)) else (none)) else (some false)
def laws_qHas.f (k : Nat) (l0 : List Int) (a1 : Int) : Option (Bool) := laws_qHas.l0 k a1 l0 (l0.length : Int) 0
set_option maxHeartbeats 8000000 in
set_option maxRecDepth 100000 in
theorem laws_qHas.calls (k : Nat) (A0 : Option Addr) (c0 : Nat) (l0 : List Int) (a1 : Int) (r : Bool) (w : World) (hr0 : Kd.C (Kd.int .i64) w A0 l0.length l0) (hc0 : l0.length ≤ c0) (h : laws_qHas.f k l0 a1 = some r) :
  Calls Tryz.prog 25 #[.slice A0 l0.length c0, .int .i64 a1] w fun e w' => e = .returned (.bool r) ∧ Drawn0 w w' := by
 have HR0 := Aside0.mk hr0
 have HC0 := Aside0.mk hc0
 clear hr0 hc0
 have H : (laws_qHas.l0 k a1 l0 (l0.length : Int) 0) = some r := h
 clear h
 have H' := Aside0.mk H
 clear H
 go_enter Tryz.func25, Tryz.ntmps25
 go_wp2
 go_loopg [9] k (fun kq v9 w' => ∃ (x9_1 : Int), v9 = .int .i64 x9_1 ∧ Aside0 (laws_qHas.l0 kq a1 l0 (l0.length : Int) x9_1 = some r) ∧ Aside0 (kq ≤ k) ∧ Drawn0 w w')
 case atStart => exact ⟨(0), kY, H', ⟨Nat.le_refl _⟩, by repeat (first | exact Drawn0.refl _ | apply Drawn0.step)⟩
 case round =>
  clear H'
  obtain ⟨x9_1, rfl, HA, HK1, ⟨m1, rfl⟩⟩ := hrel
  cases gk with
  | zero => exact absurd HA.out (by simp [laws_qHas.l0])
  | succ k1 =>
   have H := HA.out
   clear HA
   simp only [laws_qHas.l0] at H
   by_cases c3 : x9_1 < (l0.length : Int)
   ·rw [if_pos c3] at H
    have c3b0 : decide (x9_1 < (l0.length : Int)) = true := decide_eq_true c3
    clear c3
    by_cases c4 : 0 ≤ x9_1
    ·rw [if_pos c4] at H
     have c4b0 : decide (0 ≤ x9_1) = true := decide_eq_true c4
     clear c4
     by_cases c5 : x9_1 < (l0.length : Int)
     ·rw [if_pos c5] at H
      have c5b0 : decide (x9_1 < (l0.length : Int)) = true := decide_eq_true c5
      clear c5
      by_cases c6 : (rd l0 x9_1) = a1
      ·rw [if_pos c6] at H
       have c6b0 : ((rd l0 x9_1) == a1) = true := beq_iff_eq.mpr c6
       have c6b1 : ((rd l0 x9_1) != a1) = false := bne_eq_false_iff_eq.mpr c6
       clear c6
       obtain rfl := Option.some.inj H
       have p523 : 0 ≤ (x9_1 : Int) := of_decide_eq_true (by first | (with_reducible assumption) | assumption)
       have q523 : x9_1 < (l0.length : Int) := of_decide_eq_true (by first | (with_reducible assumption) | assumption)
       obtain ⟨ad523, e523, hx523_0⟩ := Kd.at_int HR0.out x9_1 p523 q523
       cases e523
       replace p523 := eq_true p523
       replace q523 := eq_true q523
       go_wp2
       go_ret
       exact ⟨by first | rfl | (simp; done) | (simp [*]; done), by repeat (first | exact Drawn0.refl _ | apply Drawn0.step)⟩
      ·rw [if_neg c6] at H
       have c6b0 : ((rd l0 x9_1) == a1) = false := beq_eq_false_iff_ne.mpr c6
       have c6b1 : ((rd l0 x9_1) != a1) = true := bne_iff_ne.mpr c6
       have H' := Aside0.mk H
       clear H
       have p523 : 0 ≤ (x9_1 : Int) := of_decide_eq_true (by first | (with_reducible assumption) | assumption)
       have q523 : x9_1 < (l0.length : Int) := of_decide_eq_true (by first | (with_reducible assumption) | assumption)
       obtain ⟨ad523, e523, hx523_0⟩ := Kd.at_int HR0.out x9_1 p523 q523
       cases e523
       replace p523 := eq_true p523
       replace q523 := eq_true q523
       go_wp2
       go_roundg k1
       case measure => have := HK1.out; omega
       case rel => exact ⟨(wrap64 (x9_1 + 1)), kY, H', ⟨by have := HK1.out; omega⟩, by repeat (first | exact Drawn0.refl _ | apply Drawn0.step)⟩
     ·rw [if_neg c5] at H
      exact absurd H (by simp)
    ·rw [if_neg c4] at H
     exact absurd H (by simp)
   ·rw [if_neg c3] at H
    have c3b0 : decide (x9_1 < (l0.length : Int)) = false := decide_eq_false c3
    clear c3
    obtain rfl := Option.some.inj H
    go_wp2
    go_ret
    exact ⟨by first | rfl | (simp; done) | (simp [*]; done), by repeat (first | exact Drawn0.refl _ | apply Drawn0.step)⟩

/-! ### impl_ChildrenOf: function 26 -/
def impl_ChildrenOf.f (k : Nat) (l0 : List (S41)) (a1 : Int) : Option (List Int × Bool) := (impl_hasKin.f k l0 (([a1] : List Int))).bind fun t527 => (if t527 = true then ((impl_children.f k l0 a1).bind fun t528 => (some (t528, true))) else (some (([] : List Int), false)))
set_option maxHeartbeats 8000000 in
set_option maxRecDepth 100000 in
theorem impl_ChildrenOf.calls (k : Nat) (A0 : Option Addr) (c0 : Nat) (l0 : List (S41)) (a1 : Int) (r1 : List Int) (r2 : Bool) (w : World) (hr0 : Kd.C k41 w A0 l0.length l0) (hc0 : l0.length ≤ c0) (h : impl_ChildrenOf.f k l0 a1 = some (r1, r2)) :
  Calls Tryz.prog 26 #[.slice A0 l0.length c0, .int .i64 a1] w fun e w' => ∃ v0_ : Value, e = .returned (.tuple #[v0_, .bool r2]) ∧ Kd.R (Kd.int .i64) 3 w' w.heap.size (fun _ => True) v0_ r1 ∧ Below w.heap.size w w' := by
 have HR0 := Aside0.mk hr0
 have HC0 := Aside0.mk hc0
 clear hr0 hc0
 have HB := Aside0.mk (Below.refl w.heap.size w)
 have H : ((impl_hasKin.f k l0 (([a1] : List Int))).bind fun t527 => (if t527 = true then ((impl_children.f k l0 a1).bind fun t528 => (some (t528, true))) else (some (([] : List Int), false)))) = some (r1, r2) := h
 clear h
 obtain ⟨y524, hy524⟩ : ∃ y_ : List Int, y_ = (([a1] : List Int)) := ⟨_, rfl⟩
 replace H : ((impl_hasKin.f k l0 y524).bind fun t527 => (if t527 = true then ((impl_children.f k l0 a1).bind fun t528 => (some (t528, true))) else (some (([] : List Int), false)))) = some (r1, r2) := by first | (rw [hy524]; with_reducible exact H) | (have H2_ := (Option.bind_some _ _).symm.trans H; rw [hy524]; with_reducible exact H2_) | (have H2_ := (Option.bind_some _ _).symm.trans H; with_reducible exact H2_) | with_reducible exact H | (rw [hy524]; exact H) | exact H
 have Ny524 := Aside0.mk hy524
 clear hy524
 replace H := Option.bind_eq_some_iff.mp H
 obtain ⟨t527, A30, H⟩ := H
 have A3 := Aside0.mk A30
 clear A30
 by_cases c4 : t527 = true
 ·subst c4
  rw [if_pos rfl] at H
  replace H := Option.bind_eq_some_iff.mp H
  obtain ⟨t528, A50, H⟩ := H
  have A5 := Aside0.mk A50
  clear A50
  simp only [Option.some.injEq, Prod.mk.injEq] at H
  obtain ⟨rfl, rfl⟩ := H
  go_enter Tryz.func26, Tryz.ntmps26
  go_wp2_with (first | ((with_reducible refine gate_dst (N := 8) rfl ?_); refine Kd.R_lit (Kd.int .i64) _ 3 ?hg (N := 8) ?hd (xs := ([a1] : List Int)) (inner := [.int .i64 a1]) (ok := fun _ => True) (okp := fun _ => True) ?hr ?hp (fun _ hk => hk) trivial (Below.refl _ _) (Nat.le_refl _) (by simp) ?_; (case hd => rfl); (case hg => rfl); (case hr => first | (go_simp; done) | (go_simp; rfl)); (case hp => exact (Reps.one (show Kd.M (Kd.int .i64) _ _ _ a1 [.int .i64 a1] from rfl) (Reps.none _ _))); intro v525 w6 ho7 hb hg_ hnew_; clear hg_ hnew_; (first | rw [← Ny524.out] at ho7 | (simp only [Int.reduceToNat] at ho7; rw [← Ny524.out] at ho7)); have n0_ := Aside0.mk (Kd.R_lower ho7 (below_size kO)); have n1_ := kH HB hb; clear HB; have HO526 := n0_; have HB := n1_; clear n0_ n1_; clear hb ho7; obtain ⟨Ao8, co8, eo8⟩ := Kd.R_slice HO526.out; subst eo8) | ((with_reducible refine gate_callee (f := 31) rfl ?_); refine kE (some 9) Tryz.func31 #[.slice A0 l0.length c0, .slice Ao8 y524.length co8] rfl ?_; (with_reducible refine (impl_hasKin.calls k _ _ l0 _ _ y524 true _ ?side1 ?side2 ?side3 ?side4 A3.out).mono ?_); (case side1 => exact kDb HR0); (case side2 => exact HC0.out); (case side3 => exact kDo HO526); (case side4 => exact (Kd.R_reads' HO526.out).2.1); rintro e w9 ⟨rfl, hb⟩; refine ⟨_, rfl, ?_⟩; have n0_ := Aside0.mk (Kd.R_below (kW HO526) hb); have n1_ := kH HB hb; clear HO526; clear HB; have HO526 := n0_; have HB := n1_; clear n0_ n1_; (try clear hb)) | ((with_reducible refine gate_callee (f := 50) rfl ?_); refine kE (some 13) Tryz.func50 #[.slice A0 l0.length c0, .int .i64 a1] rfl ?_; (with_reducible refine (impl_children.calls k _ _ l0 a1 t528 _ ?side1 ?side2 A5.out).mono ?_); (case side1 => exact kDb HR0); (case side2 => exact HC0.out); rintro e w10 ⟨v529, rfl, ho0, hb⟩; refine ⟨_, rfl, ?_⟩; have n0_ := Aside0.mk (Kd.R_elder' (kW HO526) (Kd.R_base ho0) hb); have n1_ := Aside0.mk (Kd.R_lower (Kd.R_new' ho0 (Kd.R_lt (kW HO526))) (below_size kO)); have n2_ := kH HB hb; clear HO526; clear HB; have HO526 := n0_; have HO530 := n1_; have HB := n2_; clear n0_ n1_ n2_; (try clear hb); (try clear ho0)))
  go_ret2
  exact ⟨_, kZ, by (with_reducible repeat (first | apply Kd.R_alloc | apply Kd.R_drewN | apply Kd.R_drew)); exact Kd.R_mono HO530.out (fun _ hk => trivial), kO⟩
 ·replace c4 := Bool.eq_false_iff.mpr c4
  subst c4
  rw [if_neg (show ¬ (false = true) by decide)] at H
  simp only [Option.some.injEq, Prod.mk.injEq] at H
  obtain ⟨rfl, rfl⟩ := H
  go_enter Tryz.func26, Tryz.ntmps26
  go_wp2_with (first | ((with_reducible refine gate_dst (N := 8) rfl ?_); refine Kd.R_lit (Kd.int .i64) _ 3 ?hg (N := 8) ?hd (xs := ([a1] : List Int)) (inner := [.int .i64 a1]) (ok := fun _ => True) (okp := fun _ => True) ?hr ?hp (fun _ hk => hk) trivial (Below.refl _ _) (Nat.le_refl _) (by simp) ?_; (case hd => rfl); (case hg => rfl); (case hr => first | (go_simp; done) | (go_simp; rfl)); (case hp => exact (Reps.one (show Kd.M (Kd.int .i64) _ _ _ a1 [.int .i64 a1] from rfl) (Reps.none _ _))); intro v525 w11 ho12 hb hg_ hnew_; clear hg_ hnew_; (first | rw [← Ny524.out] at ho12 | (simp only [Int.reduceToNat] at ho12; rw [← Ny524.out] at ho12)); have n0_ := Aside0.mk (Kd.R_lower ho12 (below_size kO)); have n1_ := kH HB hb; clear HB; have HO526 := n0_; have HB := n1_; clear n0_ n1_; clear hb ho12; obtain ⟨Ao13, co13, eo13⟩ := Kd.R_slice HO526.out; subst eo13) | ((with_reducible refine gate_callee (f := 31) rfl ?_); refine kE (some 9) Tryz.func31 #[.slice A0 l0.length c0, .slice Ao13 y524.length co13] rfl ?_; (with_reducible refine (impl_hasKin.calls k _ _ l0 _ _ y524 false _ ?side1 ?side2 ?side3 ?side4 A3.out).mono ?_); (case side1 => exact kDb HR0); (case side2 => exact HC0.out); (case side3 => exact kDo HO526); (case side4 => exact (Kd.R_reads' HO526.out).2.1); rintro e w14 ⟨rfl, hb⟩; refine ⟨_, rfl, ?_⟩; have n0_ := Aside0.mk (Kd.R_below (kW HO526) hb); have n1_ := kH HB hb; clear HO526; clear HB; have HO526 := n0_; have HB := n1_; clear n0_ n1_; (try clear hb)))
  go_ret2
  exact ⟨_, kZ, by first | exact Kd.R_nil _ _ _ _ _ | exact Kd.N_nil _ _ _ _ _ | exact Kd.V_nil _ _ _ _ _ | exact Kd.Q_nil _ _ _ _ _ | exact Kd.S_nil _ _ _ _ _, kO⟩

/-! ### spec_DrawAgeAtBirth: function 27 -/
def spec_DrawAgeAtBirth.f (k : Nat) (l0 : List Int) : Option ((List (S41)) × Int × Int) := (spec_DrawCommonAncestors.f k l0).bind fun bt531 => (some (bt531.1, bt531.2.1, bt531.2.2))
set_option maxHeartbeats 8000000 in
set_option maxRecDepth 100000 in
theorem spec_DrawAgeAtBirth.calls (k : Nat) (A0 : Option Addr) (c0 : Nat) (l0 : List Int) (r1 : List (S41)) (r2 : Int) (r3 : Int) (w : World) (hr0 : Kd.C (Kd.int .u8) w A0 l0.length l0) (hc0 : l0.length ≤ c0) (h : spec_DrawAgeAtBirth.f k l0 = some (r1, r2, r3)) :
  Calls Tryz.prog 27 #[.slice A0 l0.length c0] w fun e w' => ∃ v0_ : Value, e = .returned (.tuple #[v0_, .int .i64 r2, .int .i64 r3]) ∧ Kd.R k41 41 w' w.heap.size (fun _ => True) v0_ r1 ∧ Below w.heap.size w w' := by
 have HR0 := Aside0.mk hr0
 have HC0 := Aside0.mk hc0
 clear hr0 hc0
 have HB := Aside0.mk (Below.refl w.heap.size w)
 have H : ((spec_DrawCommonAncestors.f k l0).bind fun bt531 => (some (bt531.1, bt531.2.1, bt531.2.2))) = some (r1, r2, r3) := h
 clear h
 replace H := Option.bind_eq_some_iff.mp H
 obtain ⟨⟨t531, t532, t533⟩, A20, H⟩ := H
 dsimp only at H
 have A2 := Aside0.mk A20
 clear A20
 simp only [Option.some.injEq, Prod.mk.injEq] at H
 obtain ⟨rfl, rfl, rfl⟩ := H
 go_enter Tryz.func27, Tryz.ntmps27
 go_wp2_with (first | ((with_reducible refine gate_callee (f := 30) rfl ?_); refine kE (some 6) Tryz.func30 #[.slice A0 l0.length c0] rfl ?_; (with_reducible refine (spec_DrawCommonAncestors.calls k _ _ l0 t531 t532 t533 _ ?side1 ?side2 A2.out).mono ?_); (case side1 => exact kD HR0); (case side2 => exact HC0.out); rintro e w3 ⟨v534, rfl, ho0, hb⟩; refine ⟨_, rfl, ?_⟩; have n0_ := Aside0.mk (Kd.R_lower ho0 (below_size kO)); have n1_ := kH HB hb; clear HB; have HO535 := n0_; have HB := n1_; clear n0_ n1_; (try clear hb); (try clear ho0)))
 go_ret3
 exact ⟨_, kZ, kW HO535, kO⟩

end Go.Proofs.YtllihaahppelhaaGreat.P
namespace Go.Proofs.YtllihaahppelhaaGreat.P
open Go.RowKit Go.Proofs.YtllihaahppelhaaGreatW.PrintWords Go.Proofs.YtllihaahppelhaaGreatW.PrintLast Go.Proofs.YtllihaahppelhaaGreatW.PrintMore
attribute [local go_sem] max2_int min2_int max_two min_two max_three min_three max_four min_four   -- for this text's walks alone
set_option linter.unusedVariables false
set_option linter.unusedSimpArgs false

/-! ### impl_YoungestParent: function 28 -/
mutual
def impl_YoungestParent.l0 : Nat → List (S41) → Int → Int → Int → Int → Int → Option (Int × Int × Bool)
 | 0, _, _, _, _, _, _ => none
 | k + 1, x0, x5, x6, x7, x16, x17 => if x17 < x16 then ((impl_children.f k x0 x17).bind fun t537 => (impl_YoungestParent.l1 k x0 x5 x6 x7 x17 x16 x17 t537 (t537.length : Int) 0)) else (some (x5, x6, decide (x7 ≥ 0)))
def impl_YoungestParent.l1 : Nat → List (S41) → Int → Int → Int → Int → Int → Int → List Int → Int → Int → Option (Int × Int × Bool)
 | 0, _, _, _, _, _, _, _, _, _, _ => none
 | k + 1, x0, x5, x6, x7, x8, x16, x17, x22, x23, x24 => if x24 < x23 then (if 0 ≤ x24 then (if x24 < (x22.length : Int) then (if 0 ≤ (rd x22 x24) then (if (rd x22 x24) < (x0.length : Int) then (if 0 ≤ x8 then (if x8 < (x0.length : Int) then (if x7 < 0 then (impl_YoungestParent.l1 k x0 x8 (rd x22 x24) (wrap64 (((rd_T41 x0 (rd x22 x24)).f0) - ((rd_T41 x0 x8).f0))) x8 x16 x17 x22 x23 (wrap64 (x24 + 1))) else (if (wrap64 (((rd_T41 x0 (rd x22 x24)).f0) - ((rd_T41 x0 x8).f0))) < x7 then (impl_YoungestParent.l1 k x0 x8 (rd x22 x24) (wrap64 (((rd_T41 x0 (rd x22 x24)).f0) - ((rd_T41 x0 x8).f0))) x8 x16 x17 x22 x23 (wrap64 (x24 + 1))) else (impl_YoungestParent.l1 k x0 x5 x6 x7 x8 x16 x17 x22 x23 (wrap64 (x24 + 1))))) else (none)) else (none)) else (none)) else (none)) else (none)) else (none)) else (impl_YoungestParent.l0 k x0 x5 x6 x7 x16 (wrap64 (x17 + 1)))
end
def impl_YoungestParent.f (k : Nat) (l0 : List (S41)) : Option (Int × Int × Bool) := (impl_IsFamily.f k l0).bind fun t536 => (if t536 = true then (impl_YoungestParent.l0 k l0 0 0 (-1) (l0.length : Int) 0) else (some (0, 0, false)))
set_option maxHeartbeats 8000000 in
set_option maxRecDepth 100000 in
theorem impl_YoungestParent.calls (k : Nat) (A0 : Option Addr) (c0 : Nat) (l0 : List (S41)) (r1 : Int) (r2 : Int) (r3 : Bool) (w : World) (hr0 : Kd.C k41 w A0 l0.length l0) (hc0 : l0.length ≤ c0) (h : impl_YoungestParent.f k l0 = some (r1, r2, r3)) :
  Calls Tryz.prog 28 #[.slice A0 l0.length c0] w fun e w' => e = .returned (.tuple #[.int .i64 r1, .int .i64 r2, .bool r3]) ∧ Below w.heap.size w w' := by
 have HR0 := Aside0.mk hr0
 have HC0 := Aside0.mk hc0
 clear hr0 hc0
 have HB := Aside0.mk (Below.refl w.heap.size w)
 have H : ((impl_IsFamily.f k l0).bind fun t536 => (if t536 = true then (impl_YoungestParent.l0 k l0 0 0 (-1) (l0.length : Int) 0) else (some (0, 0, false)))) = some (r1, r2, r3) := h
 clear h
 replace H := Option.bind_eq_some_iff.mp H
 obtain ⟨t536, A20, H⟩ := H
 have A2 := Aside0.mk A20
 clear A20
 by_cases c3 : t536 = true
 ·subst c3
  rw [if_pos rfl] at H
  have H' := Aside0.mk H
  clear H
  go_enter Tryz.func28, Tryz.ntmps28
  go_wp2_with (first | (go_at_call 58; (with_reducible refine (impl_IsFamily.calls k _ _ l0 true _ ?side1 ?side2 A2.out).mono ?_); (case side1 => exact kD HR0); (case side2 => exact HC0.out); rintro e w4 ⟨rfl, hb⟩; replace HB := kH HB hb; (try clear hb)))
  repeat (go_quiet (first | (go_at_call 58; (with_reducible refine (impl_IsFamily.calls k _ _ l0 true _ ?side1 ?side2 A2.out).mono ?_); (case side1 => exact kD HR0); (case side2 => exact HC0.out); rintro e w4 ⟨rfl, hb⟩; replace HB := kH HB hb; (try clear hb))); try go_wp2_with (first | (go_at_call 58; (with_reducible refine (impl_IsFamily.calls k _ _ l0 true _ ?side1 ?side2 A2.out).mono ?_); (case side1 => exact kD HR0); (case side2 => exact HC0.out); rintro e w4 ⟨rfl, hb⟩; replace HB := kH HB hb; (try clear hb))))
  go_loopg [5, 6, 7, 17] k (fun kq v5 v6 v7 v17 w' => ∃ (x5_1 : Int) (x6_1 : Int) (x7_1 : Int) (x17_1 : Int), v5 = .int .i64 x5_1 ∧ v6 = .int .i64 x6_1 ∧ v7 = .int .i64 x7_1 ∧ v17 = .int .i64 x17_1 ∧ Aside0 (impl_YoungestParent.l0 kq l0 x5_1 x6_1 x7_1 (l0.length : Int) x17_1 = some (r1, r2, r3)) ∧ Aside0 (kq ≤ k) ∧ Aside0 (Below w.heap.size w w'))
  case atStart => exact ⟨(0), (0), ((-1)), (0), kY, kY, kY, kY, H', ⟨Nat.le_refl _⟩, kI⟩
  case round =>
   clear H'
   try clear c3
   obtain ⟨x5_1, x6_1, x7_1, x17_1, rfl, rfl, rfl, rfl, HA, HK1, HB⟩ := hrel
   cases gk with
   | zero => exact absurd HA.out (by simp [impl_YoungestParent.l0])
   | succ k1 =>
    have H := HA.out
    clear HA
    simp only [impl_YoungestParent.l0] at H
    by_cases c5 : x17_1 < (l0.length : Int)
    ·rw [if_pos c5] at H
     have c5b0 : decide (x17_1 < (l0.length : Int)) = true := decide_eq_true c5
     clear c5
     replace H := Option.bind_eq_some_iff.mp H
     obtain ⟨t537, A60, H⟩ := H
     have A6 := Aside0.mk A60
     clear A60
     have H' := Aside0.mk H
     clear H
     go_wp2_with (first | (go_at_call 50; (with_reducible refine (impl_children.calls k1 _ _ l0 x17_1 t537 _ ?side1 ?side2 A6.out).mono ?_); (case side1 => exact kDb HR0); (case side2 => exact HC0.out); rintro e w7 ⟨v538, rfl, ho0, hb⟩; have n0_ := Aside0.mk (Kd.R_lower ho0 (below_size kO)); have n1_ := kH HB hb; clear HB; have HO539 := n0_; have HB := n1_; clear n0_ n1_; (try clear hb); (try clear ho0); obtain ⟨Ao8, co8, eo8⟩ := Kd.R_slice HO539.out; subst eo8))
     repeat (go_quiet (first | (go_at_call 50; (with_reducible refine (impl_children.calls k1 _ _ l0 x17_1 t537 _ ?side1 ?side2 A6.out).mono ?_); (case side1 => exact kDb HR0); (case side2 => exact HC0.out); rintro e w7 ⟨v538, rfl, ho0, hb⟩; have n0_ := Aside0.mk (Kd.R_lower ho0 (below_size kO)); have n1_ := kH HB hb; clear HB; have HO539 := n0_; have HB := n1_; clear n0_ n1_; (try clear hb); (try clear ho0); obtain ⟨Ao8, co8, eo8⟩ := Kd.R_slice HO539.out; subst eo8)); try go_wp2_with (first | (go_at_call 50; (with_reducible refine (impl_children.calls k1 _ _ l0 x17_1 t537 _ ?side1 ?side2 A6.out).mono ?_); (case side1 => exact kDb HR0); (case side2 => exact HC0.out); rintro e w7 ⟨v538, rfl, ho0, hb⟩; have n0_ := Aside0.mk (Kd.R_lower ho0 (below_size kO)); have n1_ := kH HB hb; clear HB; have HO539 := n0_; have HB := n1_; clear n0_ n1_; (try clear hb); (try clear ho0); obtain ⟨Ao8, co8, eo8⟩ := Kd.R_slice HO539.out; subst eo8)))
     go_loopg [5, 6, 7, 24] k1 (fun kq v5 v6 v7 v24 w' => ∃ (x5_2 : Int) (x6_2 : Int) (x7_2 : Int) (x24_2 : Int), v5 = .int .i64 x5_2 ∧ v6 = .int .i64 x6_2 ∧ v7 = .int .i64 x7_2 ∧ v24 = .int .i64 x24_2 ∧ Aside0 (impl_YoungestParent.l1 kq l0 x5_2 x6_2 x7_2 x17_1 (l0.length : Int) x17_1 t537 (t537.length : Int) x24_2 = some (r1, r2, r3)) ∧ Aside0 (kq ≤ k1) ∧ Aside0 (Kd.R (Kd.int .i64) 3 w' w.heap.size (fun _ => True) (.slice Ao8 t537.length co8) t537) ∧ Aside0 (Below w.heap.size w w'))
     case atStart => exact ⟨(x5_1), (x6_1), (x7_1), (0), kY, kY, kY, kY, H', ⟨Nat.le_refl _⟩, ⟨kW HO539⟩, kI⟩
     case round =>
      clear H'
      try clear c3
      try clear c5
      try clear c5b0
      obtain ⟨x5_2, x6_2, x7_2, x24_2, rfl, rfl, rfl, rfl, HA, HK2, HO_22, HB⟩ := hrel
      cases gk with
      | zero => exact absurd HA.out (by simp [impl_YoungestParent.l1])
      | succ k2 =>
       have H := HA.out
       clear HA
       simp only [impl_YoungestParent.l1] at H
       by_cases c9 : x24_2 < (t537.length : Int)
       ·rw [if_pos c9] at H
        have c9b0 : decide (x24_2 < (t537.length : Int)) = true := decide_eq_true c9
        clear c9
        by_cases c10 : 0 ≤ x24_2
        ·rw [if_pos c10] at H
         have c10b0 : decide (0 ≤ x24_2) = true := decide_eq_true c10
         clear c10
         by_cases c11 : x24_2 < (t537.length : Int)
         ·rw [if_pos c11] at H
          have c11b0 : decide (x24_2 < (t537.length : Int)) = true := decide_eq_true c11
          clear c11
          by_cases c12 : 0 ≤ (rd t537 x24_2)
          ·rw [if_pos c12] at H
           have c12b0 : decide (0 ≤ (rd t537 x24_2)) = true := decide_eq_true c12
           clear c12
           by_cases c13 : (rd t537 x24_2) < (l0.length : Int)
           ·rw [if_pos c13] at H
            have c13b0 : decide ((rd t537 x24_2) < (l0.length : Int)) = true := decide_eq_true c13
            clear c13
            by_cases c14 : 0 ≤ x17_1
            ·rw [if_pos c14] at H
             have c14b0 : decide (0 ≤ x17_1) = true := decide_eq_true c14
             clear c14
             by_cases c15 : x17_1 < (l0.length : Int)
             ·rw [if_pos c15] at H
              have c15b0 : decide (x17_1 < (l0.length : Int)) = true := decide_eq_true c15
              clear c15
              by_cases c16 : x7_2 < 0
              ·rw [if_pos c16] at H
               have c16b0 : decide (x7_2 < 0) = true := decide_eq_true c16
               clear c16
               have H' := Aside0.mk H
               clear H
               have p540 : 0 ≤ (x24_2 : Int) := of_decide_eq_true (by first | (with_reducible assumption) | assumption)
               have q540 : x24_2 < (t537.length : Int) := of_decide_eq_true (by first | (with_reducible assumption) | assumption)
               obtain ⟨ad540, e540, hx540_0⟩ := Kd.at_int (Kd.R_reads' HO_22.out).2.2 x24_2 p540 q540
               cases e540
               replace p540 := eq_true p540
               replace q540 := eq_true q540
               have p541 : 0 ≤ ((rd t537 x24_2) : Int) := of_decide_eq_true (by first | (with_reducible assumption) | assumption)
               have q541 : (rd t537 x24_2) < (l0.length : Int) := of_decide_eq_true (by first | (with_reducible assumption) | assumption)
               obtain ⟨ad541, e541, hx541_0, hx541_1, hx541_2⟩ := at_T41 HR0.out (rd t537 x24_2) p541 q541
               cases e541
               replace hx541_0 := (HB.out.cell (World.block_lt_of_cell? w _ hx541_0)).trans hx541_0
               replace hx541_1 := (HB.out.cell (World.block_lt_of_cell? w _ hx541_1)).trans hx541_1
               replace hx541_2 := (HB.out.cell (World.block_lt_of_cell? w _ hx541_2)).trans hx541_2
               replace p541 := eq_true p541
               replace q541 := eq_true q541
               have p542 : 0 ≤ (x17_1 : Int) := of_decide_eq_true (by first | (with_reducible assumption) | assumption)
               have q542 : x17_1 < (l0.length : Int) := of_decide_eq_true (by first | (with_reducible assumption) | assumption)
               obtain ⟨ad542, e542, hx542_0, hx542_1, hx542_2⟩ := at_T41 HR0.out x17_1 p542 q542
               obtain rfl : ad541 = ad542 := (by injection e542)
               replace hx542_0 := (HB.out.cell (World.block_lt_of_cell? w _ hx542_0)).trans hx542_0
               replace hx542_1 := (HB.out.cell (World.block_lt_of_cell? w _ hx542_1)).trans hx542_1
               replace hx542_2 := (HB.out.cell (World.block_lt_of_cell? w _ hx542_2)).trans hx542_2
               replace p542 := eq_true p542
               replace q542 := eq_true q542
               go_wp2
               repeat (go_quiet (fail); try go_wp2)
               go_roundg k2
               case measure => have := HK1.out; have := HK2.out; omega
               case rel => exact ⟨(x17_1), (rd t537 x24_2), (wrap64 (((rd_T41 l0 (rd t537 x24_2)).f0) - ((rd_T41 l0 x17_1).f0))), (wrap64 (x24_2 + 1)), kY, kY, kY, kY, H', ⟨by have := HK1.out; have := HK2.out; omega⟩, ⟨kW HO_22⟩, kI⟩
              ·rw [if_neg c16] at H
               have c16b0 : decide (x7_2 < 0) = false := decide_eq_false c16
               clear c16
               by_cases c17 : (wrap64 (((rd_T41 l0 (rd t537 x24_2)).f0) - ((rd_T41 l0 x17_1).f0))) < x7_2
               ·rw [if_pos c17] at H
                have c17b0 : decide ((wrap64 (((rd_T41 l0 (rd t537 x24_2)).f0) - ((rd_T41 l0 x17_1).f0))) < x7_2) = true := decide_eq_true c17
                clear c17
                have H' := Aside0.mk H
                clear H
                have p540 : 0 ≤ (x24_2 : Int) := of_decide_eq_true (by first | (with_reducible assumption) | assumption)
                have q540 : x24_2 < (t537.length : Int) := of_decide_eq_true (by first | (with_reducible assumption) | assumption)
                obtain ⟨ad540, e540, hx540_0⟩ := Kd.at_int (Kd.R_reads' HO_22.out).2.2 x24_2 p540 q540
                cases e540
                replace p540 := eq_true p540
                replace q540 := eq_true q540
                have p541 : 0 ≤ ((rd t537 x24_2) : Int) := of_decide_eq_true (by first | (with_reducible assumption) | assumption)
                have q541 : (rd t537 x24_2) < (l0.length : Int) := of_decide_eq_true (by first | (with_reducible assumption) | assumption)
                obtain ⟨ad541, e541, hx541_0, hx541_1, hx541_2⟩ := at_T41 HR0.out (rd t537 x24_2) p541 q541
                cases e541
                replace hx541_0 := (HB.out.cell (World.block_lt_of_cell? w _ hx541_0)).trans hx541_0
                replace hx541_1 := (HB.out.cell (World.block_lt_of_cell? w _ hx541_1)).trans hx541_1
                replace hx541_2 := (HB.out.cell (World.block_lt_of_cell? w _ hx541_2)).trans hx541_2
                replace p541 := eq_true p541
                replace q541 := eq_true q541
                have p542 : 0 ≤ (x17_1 : Int) := of_decide_eq_true (by first | (with_reducible assumption) | assumption)
                have q542 : x17_1 < (l0.length : Int) := of_decide_eq_true (by first | (with_reducible assumption) | assumption)
                obtain ⟨ad542, e542, hx542_0, hx542_1, hx542_2⟩ := at_T41 HR0.out x17_1 p542 q542
                obtain rfl : ad541 = ad542 := (by injection e542)
                replace hx542_0 := (HB.out.cell (World.block_lt_of_cell? w _ hx542_0)).trans hx542_0
                replace hx542_1 := (HB.out.cell (World.block_lt_of_cell? w _ hx542_1)).trans hx542_1
                replace hx542_2 := (HB.out.cell (World.block_lt_of_cell? w _ hx542_2)).trans hx542_2
                replace p542 := eq_true p542
                replace q542 := eq_true q542
                go_wp2
                repeat (go_quiet (fail); try go_wp2)
                go_roundg k2
                case measure => have := HK1.out; have := HK2.out; omega
                case rel => exact ⟨(x17_1), (rd t537 x24_2), (wrap64 (((rd_T41 l0 (rd t537 x24_2)).f0) - ((rd_T41 l0 x17_1).f0))), (wrap64 (x24_2 + 1)), kY, kY, kY, kY, H', ⟨by have := HK1.out; have := HK2.out; omega⟩, ⟨kW HO_22⟩, kI⟩
               ·rw [if_neg c17] at H
                have c17b0 : decide ((wrap64 (((rd_T41 l0 (rd t537 x24_2)).f0) - ((rd_T41 l0 x17_1).f0))) < x7_2) = false := decide_eq_false c17
                clear c17
                have H' := Aside0.mk H
                clear H
                have p540 : 0 ≤ (x24_2 : Int) := of_decide_eq_true (by first | (with_reducible assumption) | assumption)
                have q540 : x24_2 < (t537.length : Int) := of_decide_eq_true (by first | (with_reducible assumption) | assumption)
                obtain ⟨ad540, e540, hx540_0⟩ := Kd.at_int (Kd.R_reads' HO_22.out).2.2 x24_2 p540 q540
                cases e540
                replace p540 := eq_true p540
                replace q540 := eq_true q540
                have p541 : 0 ≤ ((rd t537 x24_2) : Int) := of_decide_eq_true (by first | (with_reducible assumption) | assumption)
                have q541 : (rd t537 x24_2) < (l0.length : Int) := of_decide_eq_true (by first | (with_reducible assumption) | assumption)
                obtain ⟨ad541, e541, hx541_0, hx541_1, hx541_2⟩ := at_T41 HR0.out (rd t537 x24_2) p541 q541
                cases e541
                replace hx541_0 := (HB.out.cell (World.block_lt_of_cell? w _ hx541_0)).trans hx541_0
                replace hx541_1 := (HB.out.cell (World.block_lt_of_cell? w _ hx541_1)).trans hx541_1
                replace hx541_2 := (HB.out.cell (World.block_lt_of_cell? w _ hx541_2)).trans hx541_2
                replace p541 := eq_true p541
                replace q541 := eq_true q541
                have p542 : 0 ≤ (x17_1 : Int) := of_decide_eq_true (by first | (with_reducible assumption) | assumption)
                have q542 : x17_1 < (l0.length : Int) := of_decide_eq_true (by first | (with_reducible assumption) | assumption)
                obtain ⟨ad542, e542, hx542_0, hx542_1, hx542_2⟩ := at_T41 HR0.out x17_1 p542 q542
                obtain rfl : ad541 = ad542 := (by injection e542)
                replace hx542_0 := (HB.out.cell (World.block_lt_of_cell? w _ hx542_0)).trans hx542_0
                replace hx542_1 := (HB.out.cell (World.block_lt_of_cell? w _ hx542_1)).trans hx542_1
                replace hx542_2 := (HB.out.cell (World.block_lt_of_cell? w _ hx542_2)).trans hx542_2
                replace p542 := eq_true p542
                replace q542 := eq_true q542
                go_wp2
                repeat (go_quiet (fail); try go_wp2)
                go_roundg k2
                case measure => have := HK1.out; have := HK2.out; omega
                case rel => exact ⟨(x5_2), (x6_2), (x7_2), (wrap64 (x24_2 + 1)), kY, kY, kY, kY, H', ⟨by have := HK1.out; have := HK2.out; omega⟩, ⟨kW HO_22⟩, kI⟩
             ·rw [if_neg c15] at H
              exact absurd H (by simp)
            ·rw [if_neg c14] at H
             exact absurd H (by simp)
           ·rw [if_neg c13] at H
            exact absurd H (by simp)
          ·rw [if_neg c12] at H
           exact absurd H (by simp)
         ·rw [if_neg c11] at H
          exact absurd H (by simp)
        ·rw [if_neg c10] at H
         exact absurd H (by simp)
       ·rw [if_neg c9] at H
        have c9b0 : decide (x24_2 < (t537.length : Int)) = false := decide_eq_false c9
        clear c9
        have H' := Aside0.mk H
        clear H
        go_wp2
        repeat (go_quiet (fail); try go_wp2)
        go_roundg k2
        case measure => have := HK1.out; have := HK2.out; omega
        case rel => exact ⟨(x5_2), (x6_2), (x7_2), (wrap64 (x17_1 + 1)), kY, kY, kY, kY, H', ⟨by have := HK1.out; have := HK2.out; omega⟩, kI⟩
    ·rw [if_neg c5] at H
     have c5b0 : decide (x17_1 < (l0.length : Int)) = false := decide_eq_false c5
     clear c5
     simp only [Option.some.injEq, Prod.mk.injEq] at H
     obtain ⟨rfl, rfl, rfl⟩ := H
     go_wp2
     repeat (go_quiet (fail); try go_wp2)
     go_ret3
     exact ⟨kZ, kO⟩
 ·replace c3 := Bool.eq_false_iff.mpr c3
  subst c3
  rw [if_neg (show ¬ (false = true) by decide)] at H
  simp only [Option.some.injEq, Prod.mk.injEq] at H
  obtain ⟨rfl, rfl, rfl⟩ := H
  go_enter Tryz.func28, Tryz.ntmps28
  go_wp2_with (first | (go_at_call 58; (with_reducible refine (impl_IsFamily.calls k _ _ l0 false _ ?side1 ?side2 A2.out).mono ?_); (case side1 => exact kD HR0); (case side2 => exact HC0.out); rintro e w18 ⟨rfl, hb⟩; replace HB := kH HB hb; (try clear hb)))
  repeat (go_quiet (first | (go_at_call 58; (with_reducible refine (impl_IsFamily.calls k _ _ l0 false _ ?side1 ?side2 A2.out).mono ?_); (case side1 => exact kD HR0); (case side2 => exact HC0.out); rintro e w18 ⟨rfl, hb⟩; replace HB := kH HB hb; (try clear hb))); try go_wp2_with (first | (go_at_call 58; (with_reducible refine (impl_IsFamily.calls k _ _ l0 false _ ?side1 ?side2 A2.out).mono ?_); (case side1 => exact kD HR0); (case side2 => exact HC0.out); rintro e w18 ⟨rfl, hb⟩; replace HB := kH HB hb; (try clear hb))))
  go_ret3
  exact ⟨kZ, kO⟩

/-! ### spec_YoungestParent: function 29 -/
mutual
def spec_YoungestParent.l0 : Nat → List (S41) → Int → Int → Int → Int → Int → Option (Int × Int × Bool)
 | 0, _, _, _, _, _, _ => none
 | k + 1, x0, x5, x6, x7, x16, x17 => if x17 < x16 then ((spec_faChildren.f k x0 x17).bind fun t544 => (spec_YoungestParent.l1 k x0 x5 x6 x7 x17 x16 x17 t544 (t544.length : Int) 0)) else (some (x5, x6, decide (x7 ≥ 0)))
def spec_YoungestParent.l1 : Nat → List (S41) → Int → Int → Int → Int → Int → Int → List Int → Int → Int → Option (Int × Int × Bool)
 | 0, _, _, _, _, _, _, _, _, _, _ => none
 | k + 1, x0, x5, x6, x7, x8, x16, x17, x22, x23, x24 => if x24 < x23 then (if 0 ≤ x24 then (if x24 < (x22.length : Int) then (if 0 ≤ (rd x22 x24) then (if (rd x22 x24) < (x0.length : Int) then (if 0 ≤ x8 then (if x8 < (x0.length : Int) then (if x7 < 0 then (spec_YoungestParent.l1 k x0 x8 (rd x22 x24) (wrap64 (((rd_T41 x0 (rd x22 x24)).f0) - ((rd_T41 x0 x8).f0))) x8 x16 x17 x22 x23 (wrap64 (x24 + 1))) else (if (wrap64 (((rd_T41 x0 (rd x22 x24)).f0) - ((rd_T41 x0 x8).f0))) < x7 then (spec_YoungestParent.l1 k x0 x8 (rd x22 x24) (wrap64 (((rd_T41 x0 (rd x22 x24)).f0) - ((rd_T41 x0 x8).f0))) x8 x16 x17 x22 x23 (wrap64 (x24 + 1))) else (spec_YoungestParent.l1 k x0 x5 x6 x7 x8 x16 x17 x22 x23 (wrap64 (x24 + 1))))) else (none)) else (none)) else (none)) else (none)) else (none)) else (none)) else (spec_YoungestParent.l0 k x0 x5 x6 x7 x16 (wrap64 (x17 + 1)))
end
def spec_YoungestParent.f (k : Nat) (l0 : List (S41)) : Option (Int × Int × Bool) := (spec_faGood.f k l0).bind fun t543 => (if t543 = true then (spec_YoungestParent.l0 k l0 0 0 (-1) (l0.length : Int) 0) else (some (0, 0, false)))
set_option maxHeartbeats 8000000 in
set_option maxRecDepth 100000 in
theorem spec_YoungestParent.calls (k : Nat) (A0 : Option Addr) (c0 : Nat) (l0 : List (S41)) (r1 : Int) (r2 : Int) (r3 : Bool) (w : World) (hr0 : Kd.C k41 w A0 l0.length l0) (hc0 : l0.length ≤ c0) (h : spec_YoungestParent.f k l0 = some (r1, r2, r3)) :
  Calls Tryz.prog 29 #[.slice A0 l0.length c0] w fun e w' => e = .returned (.tuple #[.int .i64 r1, .int .i64 r2, .bool r3]) ∧ Below w.heap.size w w' := by
 have HR0 := Aside0.mk hr0
 have HC0 := Aside0.mk hc0
 clear hr0 hc0
 have HB := Aside0.mk (Below.refl w.heap.size w)
 have H : ((spec_faGood.f k l0).bind fun t543 => (if t543 = true then (spec_YoungestParent.l0 k l0 0 0 (-1) (l0.length : Int) 0) else (some (0, 0, false)))) = some (r1, r2, r3) := h
 clear h
 replace H := Option.bind_eq_some_iff.mp H
 obtain ⟨t543, A20, H⟩ := H
 have A2 := Aside0.mk A20
 clear A20
 by_cases c3 : t543 = true
 ·subst c3
  rw [if_pos rfl] at H
  have H' := Aside0.mk H
  clear H
  go_enter Tryz.func29, Tryz.ntmps29
  go_wp2_with (first | (go_at_call 59; (with_reducible refine (spec_faGood.calls k _ _ l0 true _ ?side1 ?side2 A2.out).mono ?_); (case side1 => exact kD HR0); (case side2 => exact HC0.out); rintro e w4 ⟨rfl, hb⟩; replace HB := kH HB hb; (try clear hb)))
  repeat (go_quiet (first | (go_at_call 59; (with_reducible refine (spec_faGood.calls k _ _ l0 true _ ?side1 ?side2 A2.out).mono ?_); (case side1 => exact kD HR0); (case side2 => exact HC0.out); rintro e w4 ⟨rfl, hb⟩; replace HB := kH HB hb; (try clear hb))); try go_wp2_with (first | (go_at_call 59; (with_reducible refine (spec_faGood.calls k _ _ l0 true _ ?side1 ?side2 A2.out).mono ?_); (case side1 => exact kD HR0); (case side2 => exact HC0.out); rintro e w4 ⟨rfl, hb⟩; replace HB := kH HB hb; (try clear hb))))
  go_loopg [5, 6, 7, 17] k (fun kq v5 v6 v7 v17 w' => ∃ (x5_1 : Int) (x6_1 : Int) (x7_1 : Int) (x17_1 : Int), v5 = .int .i64 x5_1 ∧ v6 = .int .i64 x6_1 ∧ v7 = .int .i64 x7_1 ∧ v17 = .int .i64 x17_1 ∧ Aside0 (spec_YoungestParent.l0 kq l0 x5_1 x6_1 x7_1 (l0.length : Int) x17_1 = some (r1, r2, r3)) ∧ Aside0 (kq ≤ k) ∧ Aside0 (Below w.heap.size w w'))
  case atStart => exact ⟨(0), (0), ((-1)), (0), kY, kY, kY, kY, H', ⟨Nat.le_refl _⟩, kI⟩
  case round =>
   clear H'
   try clear c3
   obtain ⟨x5_1, x6_1, x7_1, x17_1, rfl, rfl, rfl, rfl, HA, HK1, HB⟩ := hrel
   cases gk with
   | zero => exact absurd HA.out (by simp [spec_YoungestParent.l0])
   | succ k1 =>
    have H := HA.out
    clear HA
    simp only [spec_YoungestParent.l0] at H
    by_cases c5 : x17_1 < (l0.length : Int)
    ·rw [if_pos c5] at H
     have c5b0 : decide (x17_1 < (l0.length : Int)) = true := decide_eq_true c5
     clear c5
     replace H := Option.bind_eq_some_iff.mp H
     obtain ⟨t544, A60, H⟩ := H
     have A6 := Aside0.mk A60
     clear A60
     have H' := Aside0.mk H
     clear H
     go_wp2_with (first | (go_at_call 54; (with_reducible refine (spec_faChildren.calls k1 _ _ l0 x17_1 t544 _ ?side1 ?side2 A6.out).mono ?_); (case side1 => exact kDb HR0); (case side2 => exact HC0.out); rintro e w7 ⟨v545, rfl, ho0, hb⟩; have n0_ := Aside0.mk (Kd.R_lower ho0 (below_size kO)); have n1_ := kH HB hb; clear HB; have HO546 := n0_; have HB := n1_; clear n0_ n1_; (try clear hb); (try clear ho0); obtain ⟨Ao8, co8, eo8⟩ := Kd.R_slice HO546.out; subst eo8))
     repeat (go_quiet (first | (go_at_call 54; (with_reducible refine (spec_faChildren.calls k1 _ _ l0 x17_1 t544 _ ?side1 ?side2 A6.out).mono ?_); (case side1 => exact kDb HR0); (case side2 => exact HC0.out); rintro e w7 ⟨v545, rfl, ho0, hb⟩; have n0_ := Aside0.mk (Kd.R_lower ho0 (below_size kO)); have n1_ := kH HB hb; clear HB; have HO546 := n0_; have HB := n1_; clear n0_ n1_; (try clear hb); (try clear ho0); obtain ⟨Ao8, co8, eo8⟩ := Kd.R_slice HO546.out; subst eo8)); try go_wp2_with (first | (go_at_call 54; (with_reducible refine (spec_faChildren.calls k1 _ _ l0 x17_1 t544 _ ?side1 ?side2 A6.out).mono ?_); (case side1 => exact kDb HR0); (case side2 => exact HC0.out); rintro e w7 ⟨v545, rfl, ho0, hb⟩; have n0_ := Aside0.mk (Kd.R_lower ho0 (below_size kO)); have n1_ := kH HB hb; clear HB; have HO546 := n0_; have HB := n1_; clear n0_ n1_; (try clear hb); (try clear ho0); obtain ⟨Ao8, co8, eo8⟩ := Kd.R_slice HO546.out; subst eo8)))
     go_loopg [5, 6, 7, 24] k1 (fun kq v5 v6 v7 v24 w' => ∃ (x5_2 : Int) (x6_2 : Int) (x7_2 : Int) (x24_2 : Int), v5 = .int .i64 x5_2 ∧ v6 = .int .i64 x6_2 ∧ v7 = .int .i64 x7_2 ∧ v24 = .int .i64 x24_2 ∧ Aside0 (spec_YoungestParent.l1 kq l0 x5_2 x6_2 x7_2 x17_1 (l0.length : Int) x17_1 t544 (t544.length : Int) x24_2 = some (r1, r2, r3)) ∧ Aside0 (kq ≤ k1) ∧ Aside0 (Kd.R (Kd.int .i64) 3 w' w.heap.size (fun _ => True) (.slice Ao8 t544.length co8) t544) ∧ Aside0 (Below w.heap.size w w'))
     case atStart => exact ⟨(x5_1), (x6_1), (x7_1), (0), kY, kY, kY, kY, H', ⟨Nat.le_refl _⟩, ⟨kW HO546⟩, kI⟩
     case round =>
      clear H'
      try clear c3
      try clear c5
      try clear c5b0
      obtain ⟨x5_2, x6_2, x7_2, x24_2, rfl, rfl, rfl, rfl, HA, HK2, HO_22, HB⟩ := hrel
      cases gk with
      | zero => exact absurd HA.out (by simp [spec_YoungestParent.l1])
      | succ k2 =>
       have H := HA.out
       clear HA
       simp only [spec_YoungestParent.l1] at H
       by_cases c9 : x24_2 < (t544.length : Int)
       ·rw [if_pos c9] at H
        have c9b0 : decide (x24_2 < (t544.length : Int)) = true := decide_eq_true c9
        clear c9
        by_cases c10 : 0 ≤ x24_2
        ·rw [if_pos c10] at H
         have c10b0 : decide (0 ≤ x24_2) = true := decide_eq_true c10
         clear c10
         by_cases c11 : x24_2 < (t544.length : Int)
         ·rw [if_pos c11] at H
          have c11b0 : decide (x24_2 < (t544.length : Int)) = true := decide_eq_true c11
          clear c11
          by_cases c12 : 0 ≤ (rd t544 x24_2)
          ·rw [if_pos c12] at H
           have c12b0 : decide (0 ≤ (rd t544 x24_2)) = true := decide_eq_true c12
           clear c12
           by_cases c13 : (rd t544 x24_2) < (l0.length : Int)
           ·rw [if_pos c13] at H
            have c13b0 : decide ((rd t544 x24_2) < (l0.length : Int)) = true := decide_eq_true c13
            clear c13
            by_cases c14 : 0 ≤ x17_1
            ·rw [if_pos c14] at H
             have c14b0 : decide (0 ≤ x17_1) = true := decide_eq_true c14
             clear c14
             by_cases c15 : x17_1 < (l0.length : Int)
             ·rw [if_pos c15] at H
              have c15b0 : decide (x17_1 < (l0.length : Int)) = true := decide_eq_true c15
              clear c15
              by_cases c16 : x7_2 < 0
              ·rw [if_pos c16] at H
               have c16b0 : decide (x7_2 < 0) = true := decide_eq_true c16
               clear c16
               have H' := Aside0.mk H
               clear H
               have p547 : 0 ≤ (x24_2 : Int) := of_decide_eq_true (by first | (with_reducible assumption) | assumption)
               have q547 : x24_2 < (t544.length : Int) := of_decide_eq_true (by first | (with_reducible assumption) | assumption)
               obtain ⟨ad547, e547, hx547_0⟩ := Kd.at_int (Kd.R_reads' HO_22.out).2.2 x24_2 p547 q547
               cases e547
               replace p547 := eq_true p547
               replace q547 := eq_true q547
               have p548 : 0 ≤ ((rd t544 x24_2) : Int) := of_decide_eq_true (by first | (with_reducible assumption) | assumption)
               have q548 : (rd t544 x24_2) < (l0.length : Int) := of_decide_eq_true (by first | (with_reducible assumption) | assumption)
               obtain ⟨ad548, e548, hx548_0, hx548_1, hx548_2⟩ := at_T41 HR0.out (rd t544 x24_2) p548 q548
               cases e548
               replace hx548_0 := (HB.out.cell (World.block_lt_of_cell? w _ hx548_0)).trans hx548_0
               replace hx548_1 := (HB.out.cell (World.block_lt_of_cell? w _ hx548_1)).trans hx548_1
               replace hx548_2 := (HB.out.cell (World.block_lt_of_cell? w _ hx548_2)).trans hx548_2
               replace p548 := eq_true p548
               replace q548 := eq_true q548
               have p549 : 0 ≤ (x17_1 : Int) := of_decide_eq_true (by first | (with_reducible assumption) | assumption)
               have q549 : x17_1 < (l0.length : Int) := of_decide_eq_true (by first | (with_reducible assumption) | assumption)
               obtain ⟨ad549, e549, hx549_0, hx549_1, hx549_2⟩ := at_T41 HR0.out x17_1 p549 q549
               obtain rfl : ad548 = ad549 := (by injection e549)
               replace hx549_0 := (HB.out.cell (World.block_lt_of_cell? w _ hx549_0)).trans hx549_0
               replace hx549_1 := (HB.out.cell (World.block_lt_of_cell? w _ hx549_1)).trans hx549_1
               replace hx549_2 := (HB.out.cell (World.block_lt_of_cell? w _ hx549_2)).trans hx549_2
               replace p549 := eq_true p549
               replace q549 := eq_true q549
               go_wp2
               repeat (go_quiet (fail); try go_wp2)
               go_roundg k2
               case measure => have := HK1.out; have := HK2.out; omega
               case rel => exact ⟨(x17_1), (rd t544 x24_2), (wrap64 (((rd_T41 l0 (rd t544 x24_2)).f0) - ((rd_T41 l0 x17_1).f0))), (wrap64 (x24_2 + 1)), kY, kY, kY, kY, H', ⟨by have := HK1.out; have := HK2.out; omega⟩, ⟨kW HO_22⟩, kI⟩
              ·rw [if_neg c16] at H
               have c16b0 : decide (x7_2 < 0) = false := decide_eq_false c16
               clear c16
               by_cases c17 : (wrap64 (((rd_T41 l0 (rd t544 x24_2)).f0) - ((rd_T41 l0 x17_1).f0))) < x7_2
               ·rw [if_pos c17] at H
                have c17b0 : decide ((wrap64 (((rd_T41 l0 (rd t544 x24_2)).f0) - ((rd_T41 l0 x17_1).f0))) < x7_2) = true := decide_eq_true c17
                clear c17
                have H' := Aside0.mk H
                clear H
                have p547 : 0 ≤ (x24_2 : Int) := of_decide_eq_true (by first | (with_reducible assumption) | assumption)
                have q547 : x24_2 < (t544.length : Int) := of_decide_eq_true (by first | (with_reducible assumption) | assumption)
                obtain ⟨ad547, e547, hx547_0⟩ := Kd.at_int (Kd.R_reads' HO_22.out).2.2 x24_2 p547 q547
                cases e547
                replace p547 := eq_true p547
                replace q547 := eq_true q547
                have p548 : 0 ≤ ((rd t544 x24_2) : Int) := of_decide_eq_true (by first | (with_reducible assumption) | assumption)
                have q548 : (rd t544 x24_2) < (l0.length : Int) := of_decide_eq_true (by first | (with_reducible assumption) | assumption)
                obtain ⟨ad548, e548, hx548_0, hx548_1, hx548_2⟩ := at_T41 HR0.out (rd t544 x24_2) p548 q548
                cases e548
                replace hx548_0 := (HB.out.cell (World.block_lt_of_cell? w _ hx548_0)).trans hx548_0
                replace hx548_1 := (HB.out.cell (World.block_lt_of_cell? w _ hx548_1)).trans hx548_1
                replace hx548_2 := (HB.out.cell (World.block_lt_of_cell? w _ hx548_2)).trans hx548_2
                replace p548 := eq_true p548
                replace q548 := eq_true q548
                have p549 : 0 ≤ (x17_1 : Int) := of_decide_eq_true (by first | (with_reducible assumption) | assumption)
                have q549 : x17_1 < (l0.length : Int) := of_decide_eq_true (by first | (with_reducible assumption) | assumption)
                obtain ⟨ad549, e549, hx549_0, hx549_1, hx549_2⟩ := at_T41 HR0.out x17_1 p549 q549
                obtain rfl : ad548 = ad549 := (by injection e549)
                replace hx549_0 := (HB.out.cell (World.block_lt_of_cell? w _ hx549_0)).trans hx549_0
                replace hx549_1 := (HB.out.cell (World.block_lt_of_cell? w _ hx549_1)).trans hx549_1
                replace hx549_2 := (HB.out.cell (World.block_lt_of_cell? w _ hx549_2)).trans hx549_2
                replace p549 := eq_true p549
                replace q549 := eq_true q549
                go_wp2
                repeat (go_quiet (fail); try go_wp2)
                go_roundg k2
                case measure => have := HK1.out; have := HK2.out; omega
                case rel => exact ⟨(x17_1), (rd t544 x24_2), (wrap64 (((rd_T41 l0 (rd t544 x24_2)).f0) - ((rd_T41 l0 x17_1).f0))), (wrap64 (x24_2 + 1)), kY, kY, kY, kY, H', ⟨by have := HK1.out; have := HK2.out; omega⟩, ⟨kW HO_22⟩, kI⟩
               ·rw [if_neg c17] at H
                have c17b0 : decide ((wrap64 (((rd_T41 l0 (rd t544 x24_2)).f0) - ((rd_T41 l0 x17_1).f0))) < x7_2) = false := decide_eq_false c17
                clear c17
                have H' := Aside0.mk H
                clear H
                have p547 : 0 ≤ (x24_2 : Int) := of_decide_eq_true (by first | (with_reducible assumption) | assumption)
                have q547 : x24_2 < (t544.length : Int) := of_decide_eq_true (by first | (with_reducible assumption) | assumption)
                obtain ⟨ad547, e547, hx547_0⟩ := Kd.at_int (Kd.R_reads' HO_22.out).2.2 x24_2 p547 q547
                cases e547
                replace p547 := eq_true p547
                replace q547 := eq_true q547
                have p548 : 0 ≤ ((rd t544 x24_2) : Int) := of_decide_eq_true (by first | (with_reducible assumption) | assumption)
                have q548 : (rd t544 x24_2) < (l0.length : Int) := of_decide_eq_true (by first | (with_reducible assumption) | assumption)
                obtain ⟨ad548, e548, hx548_0, hx548_1, hx548_2⟩ := at_T41 HR0.out (rd t544 x24_2) p548 q548
                cases e548
                replace hx548_0 := (HB.out.cell (World.block_lt_of_cell? w _ hx548_0)).trans hx548_0
                replace hx548_1 := (HB.out.cell (World.block_lt_of_cell? w _ hx548_1)).trans hx548_1
                replace hx548_2 := (HB.out.cell (World.block_lt_of_cell? w _ hx548_2)).trans hx548_2
                replace p548 := eq_true p548
                replace q548 := eq_true q548
                have p549 : 0 ≤ (x17_1 : Int) := of_decide_eq_true (by first | (with_reducible assumption) | assumption)
                have q549 : x17_1 < (l0.length : Int) := of_decide_eq_true (by first | (with_reducible assumption) | assumption)
                obtain ⟨ad549, e549, hx549_0, hx549_1, hx549_2⟩ := at_T41 HR0.out x17_1 p549 q549
                obtain rfl : ad548 = ad549 := (by injection e549)
                replace hx549_0 := (HB.out.cell (World.block_lt_of_cell? w _ hx549_0)).trans hx549_0
                replace hx549_1 := (HB.out.cell (World.block_lt_of_cell? w _ hx549_1)).trans hx549_1
                replace hx549_2 := (HB.out.cell (World.block_lt_of_cell? w _ hx549_2)).trans hx549_2
                replace p549 := eq_true p549
                replace q549 := eq_true q549
                go_wp2
                repeat (go_quiet (fail); try go_wp2)
                go_roundg k2
                case measure => have := HK1.out; have := HK2.out; omega
                case rel => exact ⟨(x5_2), (x6_2), (x7_2), (wrap64 (x24_2 + 1)), kY, kY, kY, kY, H', ⟨by have := HK1.out; have := HK2.out; omega⟩, ⟨kW HO_22⟩, kI⟩
             ·rw [if_neg c15] at H
              exact absurd H (by simp)
            ·rw [if_neg c14] at H
             exact absurd H (by simp)
           ·rw [if_neg c13] at H
            exact absurd H (by simp)
          ·rw [if_neg c12] at H
           exact absurd H (by simp)
         ·rw [if_neg c11] at H
          exact absurd H (by simp)
        ·rw [if_neg c10] at H
         exact absurd H (by simp)
       ·rw [if_neg c9] at H
        have c9b0 : decide (x24_2 < (t544.length : Int)) = false := decide_eq_false c9
        clear c9
        have H' := Aside0.mk H
        clear H
        go_wp2
        repeat (go_quiet (fail); try go_wp2)
        go_roundg k2
        case measure => have := HK1.out; have := HK2.out; omega
        case rel => exact ⟨(x5_2), (x6_2), (x7_2), (wrap64 (x17_1 + 1)), kY, kY, kY, kY, H', ⟨by have := HK1.out; have := HK2.out; omega⟩, kI⟩
    ·rw [if_neg c5] at H
     have c5b0 : decide (x17_1 < (l0.length : Int)) = false := decide_eq_false c5
     clear c5
     simp only [Option.some.injEq, Prod.mk.injEq] at H
     obtain ⟨rfl, rfl, rfl⟩ := H
     go_wp2
     repeat (go_quiet (fail); try go_wp2)
     go_ret3
     exact ⟨kZ, kO⟩
 ·replace c3 := Bool.eq_false_iff.mpr c3
  subst c3
  rw [if_neg (show ¬ (false = true) by decide)] at H
  simp only [Option.some.injEq, Prod.mk.injEq] at H
  obtain ⟨rfl, rfl, rfl⟩ := H
  go_enter Tryz.func29, Tryz.ntmps29
  go_wp2_with (first | (go_at_call 59; (with_reducible refine (spec_faGood.calls k _ _ l0 false _ ?side1 ?side2 A2.out).mono ?_); (case side1 => exact kD HR0); (case side2 => exact HC0.out); rintro e w18 ⟨rfl, hb⟩; replace HB := kH HB hb; (try clear hb)))
  repeat (go_quiet (first | (go_at_call 59; (with_reducible refine (spec_faGood.calls k _ _ l0 false _ ?side1 ?side2 A2.out).mono ?_); (case side1 => exact kD HR0); (case side2 => exact HC0.out); rintro e w18 ⟨rfl, hb⟩; replace HB := kH HB hb; (try clear hb))); try go_wp2_with (first | (go_at_call 59; (with_reducible refine (spec_faGood.calls k _ _ l0 false _ ?side1 ?side2 A2.out).mono ?_); (case side1 => exact kD HR0); (case side2 => exact HC0.out); rintro e w18 ⟨rfl, hb⟩; replace HB := kH HB hb; (try clear hb))))
  go_ret3
  exact ⟨kZ, kO⟩

end Go.Proofs.YtllihaahppelhaaGreat.P
