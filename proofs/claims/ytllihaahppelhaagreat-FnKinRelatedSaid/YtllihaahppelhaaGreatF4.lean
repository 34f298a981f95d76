/- Calls of the functions of the given program return what the plain Lean functions of the same names return; and a row of a law out of its pure statement. Written by a program of this session out of the translation; Lean checks it. No condition. -/
import Derived.Test.YtllihaahppelhaaGreatPx0
import Derived.Test.YtllihaahppelhaaGreatCt
import Derived.Test.YtllihaahppelhaaGreatF2
import Derived.Test.YtllihaahppelhaaGreatF0
import Derived.Test.YtllihaahppelhaaGreatF1
import Derived.Test.YtllihaahppelhaaGreatF3
import Derived.Test.YtllihaahppelhaaGreatHlp
import Derived.Shelf.Abstract
import Derived.Deep.RegionHeld3
namespace Go.Proofs.YtllihaahppelhaaGreat.P
open Go.RowKit Go.Proofs.YtllihaahppelhaaGreatW.PrintWords Go.Proofs.YtllihaahppelhaaGreatW.PrintLast Go.Proofs.YtllihaahppelhaaGreatW.PrintMore
attribute [local go_sem] max2_int min2_int max_two min_two max_three min_three max_four min_four   -- for this text's walks alone
set_option linter.unusedVariables false
set_option linter.unusedSimpArgs false

/-! ### spec_faChildren: function 54 -/
def spec_faChildren.l0 : Nat → List (S41) → Int → List Int → Int → Int → Option (List Int)
 | 0, _, _, _, _, _ => none
 | k + 1, x0, x1, x5, x8, x9 => if x9 < x8 then ((spec_faParents.f k x0 x9).bind fun t431 => ((spec_l1Has.f k t431 x1).bind fun t434 => (if t434 = true then (if x5.length < 17592186044416 then (spec_faChildren.l0 k x0 x1 (x5 ++ [x9]) x8 (wrap64 (x9 + 1))) else (none)) else (spec_faChildren.l0 k x0 x1 x5 x8 (wrap64 (x9 + 1)))))) else (some x5)
def spec_faChildren.f (k : Nat) (l0 : List (S41)) (a1 : Int) : Option (List Int) := spec_faChildren.l0 k l0 a1 ([] : List Int) (l0.length : Int) 0
set_option maxHeartbeats 8000000 in
set_option maxRecDepth 100000 in
theorem spec_faChildren.calls (k : Nat) (A0 : Option Addr) (c0 : Nat) (l0 : List (S41)) (a1 : Int) (r : List Int) (w : World) (hr0 : Kd.C k41 w A0 l0.length l0) (hc0 : l0.length ≤ c0) (h : spec_faChildren.f k l0 a1 = some r) :
  Calls Tryz.prog 54 #[.slice A0 l0.length c0, .int .i64 a1] w fun e w' => ∃ v0_ : Value, e = .returned (v0_) ∧ Kd.R (Kd.int .i64) 3 w' w.heap.size (fun _ => True) v0_ r ∧ Below w.heap.size w w' := by
 have HR0 := Aside0.mk hr0
 have HC0 := Aside0.mk hc0
 clear hr0 hc0
 have HB := Aside0.mk (Below.refl w.heap.size w)
 have H : (spec_faChildren.l0 k l0 a1 ([] : List Int) (l0.length : Int) 0) = some r := h
 clear h
 have H' := Aside0.mk H
 clear H
 go_enter Tryz.func54, Tryz.ntmps54
 go_wp2
 go_loopg [5, 9] k (fun kq v5 v9 w' => ∃ (x5_1 : List Int) (x9_1 : Int), v9 = .int .i64 x9_1 ∧ Aside0 (spec_faChildren.l0 kq l0 a1 x5_1 (l0.length : Int) x9_1 = some r) ∧ Aside0 (kq ≤ k) ∧ Aside0 (Kd.R (Kd.int .i64) 3 w' w.heap.size (fun _ => True) v5 x5_1) ∧ Aside0 (Below w.heap.size w w'))
 case atStart => exact ⟨(([] : List Int)), (0), kY, H', ⟨Nat.le_refl _⟩, ⟨by first | exact Kd.R_nil _ _ _ _ _ | exact Kd.N_nil _ _ _ _ _ | exact Kd.V_nil _ _ _ _ _ | exact Kd.Q_nil _ _ _ _ _ | exact Kd.S_nil _ _ _ _ _⟩, kI⟩
 case round =>
  clear H'
  obtain ⟨x5_1, x9_1, rfl, HA, HK1, HO_5, HB⟩ := hrel
  cases gk with
  | zero => exact absurd HA.out (by simp [spec_faChildren.l0])
  | succ k1 =>
   have H := HA.out
   clear HA
   simp only [spec_faChildren.l0] at H
   by_cases c3 : x9_1 < (l0.length : Int)
   ·rw [if_pos c3] at H
    have c3b0 : decide (x9_1 < (l0.length : Int)) = true := decide_eq_true c3
    clear c3
    replace H := Option.bind_eq_some_iff.mp H
    obtain ⟨t431, A40, H⟩ := H
    have A4 := Aside0.mk A40
    clear A40
    replace H := Option.bind_eq_some_iff.mp H
    obtain ⟨t434, A50, H⟩ := H
    have A5 := Aside0.mk A50
    clear A50
    by_cases c6 : t434 = true
    ·subst c6
     rw [if_pos rfl] at H
     by_cases c7 : x5_1.length < 17592186044416
     ·rw [if_pos c7] at H
      have LMc7 := Aside0.mk c7
      clear c7
      obtain ⟨y435, hy435⟩ : ∃ y_ : List Int, y_ = (x5_1 ++ [x9_1]) := ⟨_, rfl⟩
      replace H : (spec_faChildren.l0 k1 l0 a1 y435 (l0.length : Int) (wrap64 (x9_1 + 1))) = some r := by first | (rw [hy435]; with_reducible exact H) | (have H2_ := (Option.bind_some _ _).symm.trans H; rw [hy435]; with_reducible exact H2_) | (have H2_ := (Option.bind_some _ _).symm.trans H; with_reducible exact H2_) | with_reducible exact H | (rw [hy435]; exact H) | exact H
      have Ny435 := Aside0.mk hy435
      clear hy435
      have H' := Aside0.mk H
      clear H
      go_wp2_with (first | ((with_reducible refine gate_callee (f := 57) rfl ?_); refine kE (some 14) Tryz.func57 #[.slice A0 l0.length c0, .int .i64 x9_1] rfl ?_; (with_reducible refine (spec_faParents.calls k1 _ _ l0 x9_1 t431 _ ?side1 ?side2 A4.out).mono ?_); (case side1 => exact kDb HR0); (case side2 => exact HC0.out); rintro e w8 ⟨v432, rfl, ho0, hb⟩; refine ⟨_, rfl, ?_⟩; have n0_ := Aside0.mk (Kd.R_elder' (kW HO_5) (Kd.R_base ho0) hb); have n1_ := Aside0.mk (Kd.R_lower (Kd.R_new' ho0 (Kd.R_lt (kW HO_5))) (below_size kO)); have n2_ := kH HB hb; clear HO_5; clear HB; have HO_5 := n0_; have HO433 := n1_; have HB := n2_; clear n0_ n1_ n2_; (try clear hb); (try clear ho0); obtain ⟨Ao9, co9, eo9⟩ := Kd.R_slice HO433.out; subst eo9) | ((with_reducible refine gate_callee (f := 56) rfl ?_); refine kE (some 16) Tryz.func56 #[.slice Ao9 t431.length co9, .int .i64 a1] rfl ?_; (with_reducible refine (spec_l1Has.calls k1 _ _ t431 a1 true _ ?side1 ?side2 A5.out).mono ?_); (case side1 => exact kDo HO433); (case side2 => exact (Kd.R_reads' HO433.out).2.1); rintro e w' ⟨rfl, ⟨nd, rfl⟩⟩; refine ⟨_, rfl, ?_⟩) | ((with_reducible refine gate_builtin (b := .append) (xs := #[.tmp 17, .tmp 19]) rfl ?_); at_builtin; refine Kd.R_append (Kd.int .i64) (w0 := w) w.heap.size rfl (.tmp 17) (.tmp 19) 31 3 (.int .i64 0) 8 rfl Tryz.underlying31 info3 rfl (by decide) (by omega) u5 x5_1 x9_1 [.int .i64 x9_1] (fun k_ => some k_ ≠ (.slice Ao9 t431.length co9 : Value).ownBlock) (fun _ => False) rfl rfl ?aP (fun _ hk => hk.elim) ?aF ?aO ?aB ?aS ?aL ?_; (case aP => exact rfl); (case aB => exact kO); (case aF => exact (fun k_ hk => Kd.fresh' (Kd.R_lt (kW HO433)) k_ hk)); (case aO => exact (by (with_reducible repeat (first | apply Kd.R_alloc | apply Kd.R_drewN | apply Kd.R_drew)); exact Kd.R_mono HO_5.out (fun _ hk => hk.2))); (case aS => exact (below_size kO)); (case aL => have := LMc7.out; omega); intro v436 w10 ho hb hg hat; rw [← Ny435.out] at ho; have n0_ := Aside0.mk (Kd.R_after (ok := (fun _ => True)) (kW HO433) hg hat); have n1_ := Aside0.mk (hb); have n2_ := Aside0.mk (ho); clear HO433; clear HB; clear HO_5; have HO433 := n0_; have HB := n1_; have HO437 := n2_; clear n0_ n1_ n2_; clear ho hb hg hat))
      go_roundg k1
      case measure => have := HK1.out; omega
      case rel => exact ⟨(y435), (wrap64 (x9_1 + 1)), kY, H', ⟨by have := HK1.out; omega⟩, ⟨by (with_reducible repeat (first | apply Kd.R_alloc | apply Kd.R_drewN | apply Kd.R_drew)); exact Kd.R_mono HO437.out (fun _ hk => trivial)⟩, kI⟩
     ·rw [if_neg c7] at H
      exact absurd H (by simp)
    ·replace c6 := Bool.eq_false_iff.mpr c6
     subst c6
     rw [if_neg (show ¬ (false = true) by decide)] at H
     have H' := Aside0.mk H
     clear H
     go_wp2_with (first | ((with_reducible refine gate_callee (f := 57) rfl ?_); refine kE (some 14) Tryz.func57 #[.slice A0 l0.length c0, .int .i64 x9_1] rfl ?_; (with_reducible refine (spec_faParents.calls k1 _ _ l0 x9_1 t431 _ ?side1 ?side2 A4.out).mono ?_); (case side1 => exact kDb HR0); (case side2 => exact HC0.out); rintro e w11 ⟨v432, rfl, ho0, hb⟩; refine ⟨_, rfl, ?_⟩; have n0_ := Aside0.mk (Kd.R_elder' (kW HO_5) (Kd.R_base ho0) hb); have n1_ := Aside0.mk (Kd.R_lower (Kd.R_new' ho0 (Kd.R_lt (kW HO_5))) (below_size kO)); have n2_ := kH HB hb; clear HO_5; clear HB; have HO_5 := n0_; have HO433 := n1_; have HB := n2_; clear n0_ n1_ n2_; (try clear hb); (try clear ho0); obtain ⟨Ao12, co12, eo12⟩ := Kd.R_slice HO433.out; subst eo12) | ((with_reducible refine gate_callee (f := 56) rfl ?_); refine kE (some 16) Tryz.func56 #[.slice Ao12 t431.length co12, .int .i64 a1] rfl ?_; (with_reducible refine (spec_l1Has.calls k1 _ _ t431 a1 false _ ?side1 ?side2 A5.out).mono ?_); (case side1 => exact kDo HO433); (case side2 => exact (Kd.R_reads' HO433.out).2.1); rintro e w' ⟨rfl, ⟨nd, rfl⟩⟩; refine ⟨_, rfl, ?_⟩))
     go_roundg k1
     case measure => have := HK1.out; omega
     case rel => exact ⟨(x5_1), (wrap64 (x9_1 + 1)), kY, H', ⟨by have := HK1.out; omega⟩, ⟨by (with_reducible repeat (first | apply Kd.R_alloc | apply Kd.R_drewN | apply Kd.R_drew)); exact Kd.R_mono HO_5.out (fun _ hk => trivial)⟩, kI⟩
   ·rw [if_neg c3] at H
    have c3b0 : decide (x9_1 < (l0.length : Int)) = false := decide_eq_false c3
    clear c3
    obtain rfl := Option.some.inj H
    go_wp2
    go_ret
    exact ⟨_, kZ, kW HO_5, kO⟩

/-! ### spec_faDown: function 53 -/
mutual
def spec_faDown.l0 : Nat → List (S41) → Int → List Int → Int → Option (List Int)
 | 0, _, _, _, _ => none
 | k + 1, x0, x1, x5, x6 => if x6 ≥ 0 then (if 0 ≤ x6 then (if x6 < (x5.length : Int) then ((some (x5.set (x6 : Int).toNat (-1) : List Int)).bind fun y441 => (if x6 = x1 then (spec_faDown.l0 k x0 x1 (y441.set (x6 : Int).toNat 0) (wrap64 (x6 - 1))) else ((spec_faChildren.f k x0 x6).bind fun t443 => (spec_faDown.l1 k x0 x1 y441 x6 t443 (t443.length : Int) 0)))) else (none)) else (none)) else (some x5)
def spec_faDown.l1 : Nat → List (S41) → Int → List Int → Int → List Int → Int → Int → Option (List Int)
 | 0, _, _, _, _, _, _, _ => none
 | k + 1, x0, x1, x5, x6, x31, x32, x33 => if x33 < x32 then (if 0 ≤ x33 then (if x33 < (x31.length : Int) then (if 0 ≤ (rd x31 x33) then (if (rd x31 x33) < (x5.length : Int) then (if (rd x5 (rd x31 x33)) ≥ 0 then (if 0 ≤ x6 then (if x6 < (x5.length : Int) then (if (rd x5 x6) < 0 then (spec_faDown.l1 k x0 x1 (x5.set (x6 : Int).toNat (wrap64 ((rd x5 (rd x31 x33)) + 1))) x6 x31 x32 (wrap64 (x33 + 1))) else (if (wrap64 ((rd x5 (rd x31 x33)) + 1)) < (rd x5 x6) then (spec_faDown.l1 k x0 x1 (x5.set (x6 : Int).toNat (wrap64 ((rd x5 (rd x31 x33)) + 1))) x6 x31 x32 (wrap64 (x33 + 1))) else (spec_faDown.l1 k x0 x1 x5 x6 x31 x32 (wrap64 (x33 + 1))))) else (none)) else (none)) else (spec_faDown.l1 k x0 x1 x5 x6 x31 x32 (wrap64 (x33 + 1)))) else (none)) else (none)) else (none)) else (none)) else (spec_faDown.l0 k x0 x1 x5 (wrap64 (x6 - 1)))
end
def spec_faDown.f (k : Nat) (l0 : List (S41)) (a1 : Int) : Option (List Int) := if 0 ≤ (l0.length : Int) then (if ((l0.length : Int) : Int).toNat ≤ 35184372088832 then (spec_faDown.l0 k l0 a1 (List.replicate ((l0.length : Int) : Int).toNat 0) (wrap64 ((l0.length : Int) - 1))) else (none)) else (none)
set_option maxHeartbeats 8000000 in
set_option maxRecDepth 100000 in
theorem spec_faDown.calls (k : Nat) (A0 : Option Addr) (c0 : Nat) (l0 : List (S41)) (a1 : Int) (r : List Int) (w : World) (hr0 : Kd.C k41 w A0 l0.length l0) (hc0 : l0.length ≤ c0) (h : spec_faDown.f k l0 a1 = some r) :
  Calls Tryz.prog 53 #[.slice A0 l0.length c0, .int .i64 a1] w fun e w' => ∃ v0_ : Value, e = .returned (v0_) ∧ Kd.R (Kd.int .i64) 3 w' w.heap.size (fun _ => True) v0_ r ∧ Below w.heap.size w w' := by
 have HR0 := Aside0.mk hr0
 have HC0 := Aside0.mk hc0
 clear hr0 hc0
 have HB := Aside0.mk (Below.refl w.heap.size w)
 have H : (if 0 ≤ (l0.length : Int) then (if ((l0.length : Int) : Int).toNat ≤ 35184372088832 then (spec_faDown.l0 k l0 a1 (List.replicate ((l0.length : Int) : Int).toNat 0) (wrap64 ((l0.length : Int) - 1))) else (none)) else (none)) = some r := h
 clear h
 by_cases c3 : 0 ≤ (l0.length : Int)
 ·rw [if_pos c3] at H
  have c3b0 := eq_true c3
  have c3b1 : decide (0 ≤ (l0.length : Int)) = true := decide_eq_true c3
  clear c3
  by_cases c4 : ((l0.length : Int) : Int).toNat ≤ 35184372088832
  ·rw [if_pos c4] at H
   have c4b0 := eq_true c4
   have c4b1 : decide (((l0.length : Int) : Int).toNat ≤ 35184372088832) = true := decide_eq_true c4
   clear c4
   obtain ⟨y438, hy438⟩ : ∃ y_ : List Int, y_ = (List.replicate ((l0.length : Int) : Int).toNat 0) := ⟨_, rfl⟩
   replace H : (spec_faDown.l0 k l0 a1 y438 (wrap64 ((l0.length : Int) - 1))) = some r := by first | (rw [hy438]; with_reducible exact H) | (have H2_ := (Option.bind_some _ _).symm.trans H; rw [hy438]; with_reducible exact H2_) | (have H2_ := (Option.bind_some _ _).symm.trans H; with_reducible exact H2_) | with_reducible exact H | (rw [hy438]; exact H) | exact H
   have Ny438 := Aside0.mk hy438
   clear hy438
   have H' := Aside0.mk H
   clear H
   go_enter Tryz.func53, Tryz.ntmps53
   go_wp2_with (first | ((with_reducible refine gate_dst (N := 12) rfl ?_); refine Kd.R_make (Kd.int .i64) _ 3 rfl (N := 12) rfl 31 _ _ rfl (l0.length : Int) rfl rfl Tryz.underlying31 (.int .i64 0) 8 info3 rfl (by decide) (by omega) 0 (ok := fun _ => True) (okp := fun _ => True) rfl (fun _ hk => hk) trivial (of_decide_eq_true (by first | (with_reducible assumption) | assumption)) (Nat.le_trans (Nat.mul_le_mul_right _ (of_decide_eq_true (by first | (with_reducible assumption) | assumption) : (l0.length : Int).toNat ≤ 35184372088832)) (by omega)) (Below.refl _ _) (Nat.le_refl _) ?_; intro v439 w5 ho6 hb hg_ hnew_; clear hg_ hnew_; (first | rw [← Ny438.out] at ho6 | (simp only [Int.reduceToNat] at ho6; rw [← Ny438.out] at ho6)); have n0_ := Aside0.mk (Kd.R_lower ho6 (below_size kO)); have n1_ := kH HB hb; clear HB; have HO440 := n0_; have HB := n1_; clear n0_ n1_; clear hb ho6))
   go_loopg [6] k (fun kq v6 w' => ∃ (x5_1 : List Int) (x6_1 : Int), v6 = .int .i64 x6_1 ∧ Aside0 (spec_faDown.l0 kq l0 a1 x5_1 x6_1 = some r) ∧ Aside0 (kq ≤ k) ∧ Aside0 (Kd.R (Kd.int .i64) 3 w' w.heap.size (fun _ => True) v439 x5_1) ∧ Aside0 (Below w.heap.size w w'))
   case atStart => exact ⟨(y438), (wrap64 ((l0.length : Int) - 1)), kY, H', ⟨Nat.le_refl _⟩, ⟨kW HO440⟩, kI⟩
   case round =>
    clear H'
    try clear c3
    try clear c3b0
    try clear c3b1
    try clear c4
    try clear c4b0
    try clear c4b1
    obtain ⟨x5_1, x6_1, rfl, HA, HK1, HO_5, HB⟩ := hrel
    cases gk with
    | zero => exact absurd HA.out (by simp [spec_faDown.l0])
    | succ k1 =>
     have H := HA.out
     clear HA
     simp only [spec_faDown.l0] at H
     by_cases c7 : x6_1 ≥ 0
     ·rw [if_pos c7] at H
      have c7b0 : decide (0 ≤ x6_1) = true := decide_eq_true c7
      clear c7
      by_cases c8 : 0 ≤ x6_1
      ·rw [if_pos c8] at H
       have c8b0 : decide (0 ≤ x6_1) = true := decide_eq_true c8
       clear c8
       by_cases c9 : x6_1 < (x5_1.length : Int)
       ·rw [if_pos c9] at H
        have c9b0 : decide (x6_1 < (x5_1.length : Int)) = true := decide_eq_true c9
        clear c9
        obtain ⟨y441, hy441⟩ : ∃ y_ : List Int, y_ = (x5_1.set (x6_1 : Int).toNat (-1)) := ⟨_, rfl⟩
        replace H : (if x6_1 = a1 then (spec_faDown.l0 k1 l0 a1 (y441.set (x6_1 : Int).toNat 0) (wrap64 (x6_1 - 1))) else ((spec_faChildren.f k1 l0 x6_1).bind fun t443 => (spec_faDown.l1 k1 l0 a1 y441 x6_1 t443 (t443.length : Int) 0))) = some r := by first | (rw [hy441]; with_reducible exact H) | (have H2_ := (Option.bind_some _ _).symm.trans H; rw [hy441]; with_reducible exact H2_) | (have H2_ := (Option.bind_some _ _).symm.trans H; with_reducible exact H2_) | with_reducible exact H | (rw [hy441]; exact H) | exact H
        have Ny441 := Aside0.mk hy441
        clear hy441
        by_cases c11 : x6_1 = a1
        ·rw [if_pos c11] at H
         have c11b0 : (x6_1 == a1) = true := beq_iff_eq.mpr c11
         have c11b1 : (x6_1 != a1) = false := bne_eq_false_iff_eq.mpr c11
         clear c11
         obtain ⟨y442, hy442⟩ : ∃ y_ : List Int, y_ = (y441.set (x6_1 : Int).toNat 0) := ⟨_, rfl⟩
         replace H : (spec_faDown.l0 k1 l0 a1 y442 (wrap64 (x6_1 - 1))) = some r := by first | (rw [hy442]; with_reducible exact H) | (have H2_ := (Option.bind_some _ _).symm.trans H; rw [hy442]; with_reducible exact H2_) | (have H2_ := (Option.bind_some _ _).symm.trans H; with_reducible exact H2_) | with_reducible exact H | (rw [hy442]; exact H) | exact H
         have Ny442 := Aside0.mk hy442
         clear hy442
         have H' := Aside0.mk H
         clear H
         have p10 : 0 ≤ (x6_1 : Int) := of_decide_eq_true (by first | (with_reducible assumption) | assumption)
         have q10 : (x6_1 : Int) < ((x5_1.length : Int) : Int) := of_decide_eq_true (by first | (with_reducible assumption) | assumption)
         obtain ⟨go10, co10, eo10, gb10, gl10, cl10, HG10⟩ := Kd.R_form HO_5.out (by omega)
         (first | cases eo10 | (injection eo10 with ea_ en_ ec_; (first | subst ea_ | (injection ea_ with ea_; subst ea_)); subst ec_; clear en_))
         have GB10 := Aside0.mk gb10
         have GG10 := Aside0.mk HG10
         clear gb10 gl10 HG10
         obtain ⟨hx10_0, hf10_0⟩ := Kd.R_celln 0 HO_5.out (x6_1 : Int) p10 q10
         replace p10 := eq_true p10
         replace q10 := eq_true q10
         have HP13 := Kd.R_putg HO_5.out (x6_1 : Int) (-1)
         go_wp2_with (first | ((with_reducible refine gate_store (t := 3) (p := 22) rfl ?_); refine store_event (t := 3) (p := 22) (v := ?vo_w14) (w1 := (wr.setCell ⟨go10, (x6_1 : Int).toNat, none⟩ (.int .i64 (-1)))) ?hg ?ho ?hn ?hr ?_; (case ho => rfl); (case hg => rfl); (case hn => rfl); (case hr => first | (go_simp; done) | (go_simp; rfl)); intro w14 hw; have hg : wr.grownBy w14 (some go10) := (by rw [hw]; exact HP13.2); have hp_ : Kd.R (Kd.int .i64) 3 w14 w.heap.size (fun _ => True) (.slice (some ⟨go10, 0, none⟩) x5_1.length co10) y441 := (by rw [hw, Ny441.out]; exact HP13.1); clear HP13; have n0_ := Aside0.mk (hp_); have n1_ := Aside0.mk ((by rw [hw]; exact below_set (HB.out) GB10.out : Below w.heap.size w w14)); clear HO_5; clear HB; have HO_5 := n0_; have HB := n1_; clear n0_ n1_; clear hg hw hp_; have p12 : 0 ≤ (x6_1 : Int) := of_decide_eq_true (by first | (with_reducible assumption) | assumption); have q12 : (x6_1 : Int) < ((x5_1.length : Int) : Int) := of_decide_eq_true (by first | (with_reducible assumption) | assumption); obtain ⟨hx12_0, hf12_0⟩ := Kd.R_celln 0 HO_5.out (x6_1 : Int) p12 q12; replace p12 := eq_true p12; replace q12 := eq_true q12; obtain ⟨hy15_, hz15_⟩ := Kd.R_celln 0 HO_5.out (x6_1 : Int) (of_decide_eq_true (by first | (with_reducible assumption) | assumption)) (of_decide_eq_true (by first | (with_reducible assumption) | assumption)); have HP15 := Kd.R_putg HO_5.out (x6_1 : Int) 0) | ((with_reducible refine gate_store (t := 3) (p := 28) rfl ?_); refine store_event (t := 3) (p := 28) (v := ?vo_w16) (w1 := (w14.setCell ⟨go10, (x6_1 : Int).toNat, none⟩ (.int .i64 0))) ?hg ?ho ?hn ?hr ?_; (case ho => rfl); (case hg => rfl); (case hn => rfl); (case hr => first | (go_simp; done) | (go_simp; rfl)); intro w16 hw; have hg : w14.grownBy w16 (some go10) := (by rw [hw]; exact HP15.2); have hp_ : Kd.R (Kd.int .i64) 3 w16 w.heap.size (fun _ => True) (.slice (some ⟨go10, 0, none⟩) x5_1.length co10) y442 := (by rw [hw, Ny442.out]; exact HP15.1); clear HP15; have n0_ := Aside0.mk (hp_); have n1_ := Aside0.mk ((by rw [hw]; exact below_set (HB.out) GB10.out : Below w.heap.size w w16)); clear HO_5; clear HB; have HO_5 := n0_; have HB := n1_; clear n0_ n1_; clear hg hw hp_))
         go_roundg k1
         case measure => have := HK1.out; omega
         case rel => exact ⟨(y442), (wrap64 (x6_1 - 1)), kY, H', ⟨by have := HK1.out; omega⟩, ⟨kW HO_5⟩, kI⟩
        ·rw [if_neg c11] at H
         have c11b0 : (x6_1 == a1) = false := beq_eq_false_iff_ne.mpr c11
         have c11b1 : (x6_1 != a1) = true := bne_iff_ne.mpr c11
         replace H := Option.bind_eq_some_iff.mp H
         obtain ⟨t443, A170, H⟩ := H
         have A17 := Aside0.mk A170
         clear A170
         have H' := Aside0.mk H
         clear H
         have p10 : 0 ≤ (x6_1 : Int) := of_decide_eq_true (by first | (with_reducible assumption) | assumption)
         have q10 : (x6_1 : Int) < ((x5_1.length : Int) : Int) := of_decide_eq_true (by first | (with_reducible assumption) | assumption)
         obtain ⟨go10, co10, eo10, gb10, gl10, cl10, HG10⟩ := Kd.R_form HO_5.out (by omega)
         (first | cases eo10 | (injection eo10 with ea_ en_ ec_; (first | subst ea_ | (injection ea_ with ea_; subst ea_)); subst ec_; clear en_))
         have GB10 := Aside0.mk gb10
         have GG10 := Aside0.mk HG10
         clear gb10 gl10 HG10
         obtain ⟨hx10_0, hf10_0⟩ := Kd.R_celln 0 HO_5.out (x6_1 : Int) p10 q10
         replace p10 := eq_true p10
         replace q10 := eq_true q10
         have HP18 := Kd.R_putg HO_5.out (x6_1 : Int) (-1)
         go_wp2_with (first | ((with_reducible refine gate_store (t := 3) (p := 22) rfl ?_); refine store_event (t := 3) (p := 22) (v := ?vo_w19) (w1 := (wr.setCell ⟨go10, (x6_1 : Int).toNat, none⟩ (.int .i64 (-1)))) ?hg ?ho ?hn ?hr ?_; (case ho => rfl); (case hg => rfl); (case hn => rfl); (case hr => first | (go_simp; done) | (go_simp; rfl)); intro w19 hw; have hg : wr.grownBy w19 (some go10) := (by rw [hw]; exact HP18.2); have hp_ : Kd.R (Kd.int .i64) 3 w19 w.heap.size (fun _ => True) (.slice (some ⟨go10, 0, none⟩) x5_1.length co10) y441 := (by rw [hw, Ny441.out]; exact HP18.1); clear HP18; have n0_ := Aside0.mk (hp_); have n1_ := Aside0.mk ((by rw [hw]; exact below_set (HB.out) GB10.out : Below w.heap.size w w19)); clear HO_5; clear HB; have HO_5 := n0_; have HB := n1_; clear n0_ n1_; clear hg hw hp_) | ((with_reducible refine gate_callee (f := 54) rfl ?_); refine kE (some 31) Tryz.func54 #[.slice A0 l0.length c0, .int .i64 x6_1] rfl ?_; (with_reducible refine (spec_faChildren.calls k1 _ _ l0 x6_1 t443 _ ?side1 ?side2 A17.out).mono ?_); (case side1 => exact kDb HR0); (case side2 => exact HC0.out); rintro e w20 ⟨v444, rfl, ho0, hb⟩; refine ⟨_, rfl, ?_⟩; have n0_ := Aside0.mk (Kd.R_elder' (kW HO_5) (Kd.R_base ho0) hb); have n1_ := Aside0.mk (Kd.R_lower (Kd.R_new' ho0 (Kd.R_lt (kW HO_5))) (below_size kO)); have n2_ := kH HB hb; clear HO_5; clear HB; have HO_5 := n0_; have HO445 := n1_; have HB := n2_; clear n0_ n1_ n2_; (try clear hb); (try clear ho0); obtain ⟨Ao21, co21, eo21⟩ := Kd.R_slice HO445.out; subst eo21))
         go_loopg [33] k1 (fun kq v33 w' => ∃ (x5_2 : List Int) (x33_2 : Int), v33 = .int .i64 x33_2 ∧ Aside0 (spec_faDown.l1 kq l0 a1 x5_2 x6_1 t443 (t443.length : Int) x33_2 = some r) ∧ Aside0 (kq ≤ k1) ∧ Aside0 (Kd.R (Kd.int .i64) 3 w' w.heap.size (fun k_ => some k_ ≠ ((.slice Ao21 t443.length co21) : Value).ownBlock) (.slice (some ⟨go10, 0, none⟩) x5_1.length co10) x5_2) ∧ Aside0 (Kd.R (Kd.int .i64) 3 w' w.heap.size (fun k_ => some k_ ≠ ((.slice (some ⟨go10, 0, none⟩) x5_1.length co10) : Value).ownBlock) (.slice Ao21 t443.length co21) t443) ∧ Aside0 (Below w.heap.size w w'))
         case atStart => exact ⟨(y441), (0), kY, H', ⟨Nat.le_refl _⟩, ⟨by (with_reducible repeat (first | apply Kd.R_alloc | apply Kd.R_drewN | apply Kd.R_drew)); exact Kd.R_mono HO_5.out (fun _ hk => hk.2)⟩, ⟨by (with_reducible repeat (first | apply Kd.R_alloc | apply Kd.R_drewN | apply Kd.R_drew)); exact Kd.R_mono HO445.out (fun _ hk => hk.2)⟩, kI⟩
         case round =>
          clear H'
          try clear c3
          try clear c3b0
          try clear c3b1
          try clear c4
          try clear c4b0
          try clear c4b1
          try clear c7
          try clear c7b0
          try clear c8
          try clear c8b0
          try clear c9
          try clear c9b0
          try clear p10
          try clear c11
          try clear c11b0
          try clear c11b1
          try clear p10
          obtain ⟨x5_2, x33_2, rfl, HA, HK2, HO_5, HO_31, HB⟩ := hrel
          have hl5_2 := (Kd.R_reads' HO_5.out).1
          rw [hl5_2] at HO_5
          (try simp only [hl5_2])
          (try simp only [hl5_2] at HO_31)
          cases gk with
          | zero => exact absurd HA.out (by simp [spec_faDown.l1])
          | succ k2 =>
           have H := HA.out
           clear HA
           simp only [spec_faDown.l1] at H
           by_cases c22 : x33_2 < (t443.length : Int)
           ·rw [if_pos c22] at H
            have c22b0 : decide (x33_2 < (t443.length : Int)) = true := decide_eq_true c22
            (try (have c22b0r := c22b0; simp only [hl5_2] at c22b0r))
            clear c22
            by_cases c23 : 0 ≤ x33_2
            ·rw [if_pos c23] at H
             have c23b0 : decide (0 ≤ x33_2) = true := decide_eq_true c23
             clear c23
             by_cases c24 : x33_2 < (t443.length : Int)
             ·rw [if_pos c24] at H
              have c24b0 : decide (x33_2 < (t443.length : Int)) = true := decide_eq_true c24
              (try (have c24b0r := c24b0; simp only [hl5_2] at c24b0r))
              clear c24
              by_cases c25 : 0 ≤ (rd t443 x33_2)
              ·rw [if_pos c25] at H
               have c25b0 : decide (0 ≤ (rd t443 x33_2)) = true := decide_eq_true c25
               clear c25
               by_cases c26 : (rd t443 x33_2) < (x5_2.length : Int)
               ·rw [if_pos c26] at H
                have c26b0 : decide ((rd t443 x33_2) < (x5_2.length : Int)) = true := decide_eq_true c26
                (try (have c26b0r := c26b0; simp only [hl5_2] at c26b0r))
                clear c26
                by_cases c27 : (rd x5_2 (rd t443 x33_2)) ≥ 0
                ·rw [if_pos c27] at H
                 have c27b0 : decide (0 ≤ (rd x5_2 (rd t443 x33_2))) = true := decide_eq_true c27
                 clear c27
                 by_cases c28 : 0 ≤ x6_1
                 ·rw [if_pos c28] at H
                  have c28b0 : decide (0 ≤ x6_1) = true := decide_eq_true c28
                  clear c28
                  by_cases c29 : x6_1 < (x5_2.length : Int)
                  ·rw [if_pos c29] at H
                   have c29b0 : decide (x6_1 < (x5_2.length : Int)) = true := decide_eq_true c29
                   (try (have c29b0r := c29b0; simp only [hl5_2] at c29b0r))
                   clear c29
                   by_cases c30 : (rd x5_2 x6_1) < 0
                   ·rw [if_pos c30] at H
                    have c30b0 : decide ((rd x5_2 x6_1) < 0) = true := decide_eq_true c30
                    clear c30
                    obtain ⟨y449, hy449⟩ : ∃ y_ : List Int, y_ = (x5_2.set (x6_1 : Int).toNat (wrap64 ((rd x5_2 (rd t443 x33_2)) + 1))) := ⟨_, rfl⟩
                    replace H : (spec_faDown.l1 k2 l0 a1 y449 x6_1 t443 (t443.length : Int) (wrap64 (x33_2 + 1))) = some r := by first | (rw [hy449]; with_reducible exact H) | (have H2_ := (Option.bind_some _ _).symm.trans H; rw [hy449]; with_reducible exact H2_) | (have H2_ := (Option.bind_some _ _).symm.trans H; with_reducible exact H2_) | with_reducible exact H | (rw [hy449]; exact H) | exact H
                    have Ny449 := Aside0.mk hy449
                    clear hy449
                    have H' := Aside0.mk H
                    clear H
                    have p446 : 0 ≤ (x33_2 : Int) := of_decide_eq_true (by first | (with_reducible assumption) | assumption)
                    have q446 : x33_2 < (t443.length : Int) := of_decide_eq_true (by first | (with_reducible assumption) | assumption)
                    obtain ⟨ad446, e446, hx446_0⟩ := Kd.at_int (Kd.R_reads' HO_31.out).2.2 x33_2 p446 q446
                    cases e446
                    replace p446 := eq_true p446
                    replace q446 := eq_true q446
                    have p447 : 0 ≤ ((rd t443 x33_2) : Int) := of_decide_eq_true (by first | (with_reducible assumption) | assumption)
                    have q447 : (rd t443 x33_2) < (x5_2.length : Int) := of_decide_eq_true (by first | (with_reducible assumption) | assumption)
                    obtain ⟨ad447, e447, hx447_0⟩ := Kd.at_int (Kd.R_reads' HO_5.out).2.2 (rd t443 x33_2) p447 q447
                    obtain rfl : (⟨go10, 0, none⟩ : Addr) = ad447 := (by injection e447)
                    (first | simp only [add_plain] at hx447_0 | simp only [add_at] at hx447_0 | simp only [Addr.add, Nat.zero_add] at hx447_0 | skip)
                    replace p447 := eq_true p447
                    replace q447 := eq_true q447
                    have p448 : 0 ≤ (x6_1 : Int) := of_decide_eq_true (by first | (with_reducible assumption) | assumption)
                    have q448 : x6_1 < (x5_2.length : Int) := of_decide_eq_true (by first | (with_reducible assumption) | assumption)
                    obtain ⟨ad448, e448, hx448_0⟩ := Kd.at_int (Kd.R_reads' HO_5.out).2.2 x6_1 p448 q448
                    obtain rfl : (⟨go10, 0, none⟩ : Addr) = ad448 := (by injection e448)
                    (first | simp only [add_plain] at hx448_0 | simp only [add_at] at hx448_0 | simp only [Addr.add, Nat.zero_add] at hx448_0 | skip)
                    replace p448 := eq_true p448
                    replace q448 := eq_true q448
                    have p31 : 0 ≤ (x6_1 : Int) := of_decide_eq_true (by first | (with_reducible assumption) | assumption)
                    have q31 : (x6_1 : Int) < ((x5_2.length : Int) : Int) := of_decide_eq_true (by first | (with_reducible assumption) | assumption)
                    obtain ⟨hx31_0, hf31_0⟩ := Kd.R_celln 0 HO_5.out (x6_1 : Int) p31 q31
                    replace p31 := eq_true p31
                    replace q31 := eq_true q31
                    have HP32 := Kd.R_putg HO_5.out (x6_1 : Int) (wrap64 ((rd x5_2 (rd t443 x33_2)) + 1))
                    go_wp2_with (first | ((with_reducible refine gate_store (t := 3) (p := 63) rfl ?_); refine store_event (t := 3) (p := 63) (v := ?vo_w33) (w1 := (wr.setCell ⟨go10, (x6_1 : Int).toNat, none⟩ (.int .i64 (wrap64 ((rd x5_2 (rd t443 x33_2)) + 1))))) ?hg ?ho ?hn ?hr ?_; (case ho => rfl); (case hg => rfl); (case hn => rfl); (case hr => first | (go_simp; done) | (go_simp; rfl)); intro w33 hw; have hg : wr.grownBy w33 (some go10) := (by rw [hw]; exact HP32.2); have hp_ : Kd.R (Kd.int .i64) 3 w33 w.heap.size (fun k_ => some k_ ≠ (.slice (some ad446) t443.length co21 : Value).ownBlock) (.slice (some ⟨go10, 0, none⟩) x5_2.length co10) y449 := (by rw [hw, Ny449.out]; exact HP32.1); clear HP32; have n0_ := Aside0.mk (hp_); have n1_ := Aside0.mk (Kd.R_after (v := (.slice (some ⟨go10, 0, none⟩) x5_2.length co10)) (v1 := (.slice (some ⟨go10, 0, none⟩) x5_2.length co10)) (ok := (fun _ => True)) (by (with_reducible repeat (first | apply Kd.R_alloc | apply Kd.R_drewN | apply Kd.R_drew)); exact Kd.R_mono HO_31.out (fun _ hk => ⟨trivial, hk⟩)) hg (.inl rfl)); have n2_ := Aside0.mk ((by rw [hw]; exact below_set (HB.out) GB10.out : Below w.heap.size w w33)); clear HO_5; clear HO_31; clear HB; have HO_5 := n0_; have HO_31 := n1_; have HB := n2_; clear n0_ n1_ n2_; clear hg hw hp_))
                    (try simp only [← hl5_2])
                    go_roundg k2
                    case measure => have := HK1.out; have := HK2.out; omega
                    case rel => exact ⟨(y449), (wrap64 (x33_2 + 1)), kY, H', ⟨by have := HK1.out; have := HK2.out; omega⟩, ⟨by (try simp only [hl5_2]); (with_reducible repeat (first | apply Kd.R_alloc | apply Kd.R_drewN | apply Kd.R_drew)); exact HO_5.out⟩, ⟨by (try simp only [hl5_2]); (with_reducible repeat (first | apply Kd.R_alloc | apply Kd.R_drewN | apply Kd.R_drew)); exact Kd.R_mono HO_31.out (fun _ hk => hk.2)⟩, kI⟩
                   ·rw [if_neg c30] at H
                    have c30b0 : decide ((rd x5_2 x6_1) < 0) = false := decide_eq_false c30
                    clear c30
                    by_cases c34 : (wrap64 ((rd x5_2 (rd t443 x33_2)) + 1)) < (rd x5_2 x6_1)
                    ·rw [if_pos c34] at H
                     have c34b0 : decide ((wrap64 ((rd x5_2 (rd t443 x33_2)) + 1)) < (rd x5_2 x6_1)) = true := decide_eq_true c34
                     clear c34
                     obtain ⟨y451, hy451⟩ : ∃ y_ : List Int, y_ = (x5_2.set (x6_1 : Int).toNat (wrap64 ((rd x5_2 (rd t443 x33_2)) + 1))) := ⟨_, rfl⟩
                     replace H : (spec_faDown.l1 k2 l0 a1 y451 x6_1 t443 (t443.length : Int) (wrap64 (x33_2 + 1))) = some r := by first | (rw [hy451]; with_reducible exact H) | (have H2_ := (Option.bind_some _ _).symm.trans H; rw [hy451]; with_reducible exact H2_) | (have H2_ := (Option.bind_some _ _).symm.trans H; with_reducible exact H2_) | with_reducible exact H | (rw [hy451]; exact H) | exact H
                     have Ny451 := Aside0.mk hy451
                     clear hy451
                     have H' := Aside0.mk H
                     clear H
                     have p446 : 0 ≤ (x33_2 : Int) := of_decide_eq_true (by first | (with_reducible assumption) | assumption)
                     have q446 : x33_2 < (t443.length : Int) := of_decide_eq_true (by first | (with_reducible assumption) | assumption)
                     obtain ⟨ad446, e446, hx446_0⟩ := Kd.at_int (Kd.R_reads' HO_31.out).2.2 x33_2 p446 q446
                     cases e446
                     replace p446 := eq_true p446
                     replace q446 := eq_true q446
                     have p447 : 0 ≤ ((rd t443 x33_2) : Int) := of_decide_eq_true (by first | (with_reducible assumption) | assumption)
                     have q447 : (rd t443 x33_2) < (x5_2.length : Int) := of_decide_eq_true (by first | (with_reducible assumption) | assumption)
                     obtain ⟨ad447, e447, hx447_0⟩ := Kd.at_int (Kd.R_reads' HO_5.out).2.2 (rd t443 x33_2) p447 q447
                     obtain rfl : (⟨go10, 0, none⟩ : Addr) = ad447 := (by injection e447)
                     (first | simp only [add_plain] at hx447_0 | simp only [add_at] at hx447_0 | simp only [Addr.add, Nat.zero_add] at hx447_0 | skip)
                     replace p447 := eq_true p447
                     replace q447 := eq_true q447
                     have p448 : 0 ≤ (x6_1 : Int) := of_decide_eq_true (by first | (with_reducible assumption) | assumption)
                     have q448 : x6_1 < (x5_2.length : Int) := of_decide_eq_true (by first | (with_reducible assumption) | assumption)
                     obtain ⟨ad448, e448, hx448_0⟩ := Kd.at_int (Kd.R_reads' HO_5.out).2.2 x6_1 p448 q448
                     obtain rfl : (⟨go10, 0, none⟩ : Addr) = ad448 := (by injection e448)
                     (first | simp only [add_plain] at hx448_0 | simp only [add_at] at hx448_0 | simp only [Addr.add, Nat.zero_add] at hx448_0 | skip)
                     replace p448 := eq_true p448
                     replace q448 := eq_true q448
                     have p450 : 0 ≤ (x6_1 : Int) := of_decide_eq_true (by first | (with_reducible assumption) | assumption)
                     have q450 : x6_1 < (x5_2.length : Int) := of_decide_eq_true (by first | (with_reducible assumption) | assumption)
                     obtain ⟨ad450, e450, hx450_0⟩ := Kd.at_int (Kd.R_reads' HO_5.out).2.2 x6_1 p450 q450
                     obtain rfl : (⟨go10, 0, none⟩ : Addr) = ad450 := (by injection e450)
                     (first | simp only [add_plain] at hx450_0 | simp only [add_at] at hx450_0 | simp only [Addr.add, Nat.zero_add] at hx450_0 | skip)
                     replace p450 := eq_true p450
                     replace q450 := eq_true q450
                     have p35 : 0 ≤ (x6_1 : Int) := of_decide_eq_true (by first | (with_reducible assumption) | assumption)
                     have q35 : (x6_1 : Int) < ((x5_2.length : Int) : Int) := of_decide_eq_true (by first | (with_reducible assumption) | assumption)
                     obtain ⟨hx35_0, hf35_0⟩ := Kd.R_celln 0 HO_5.out (x6_1 : Int) p35 q35
                     replace p35 := eq_true p35
                     replace q35 := eq_true q35
                     have HP36 := Kd.R_putg HO_5.out (x6_1 : Int) (wrap64 ((rd x5_2 (rd t443 x33_2)) + 1))
                     go_wp2_with (first | ((with_reducible refine gate_store (t := 3) (p := 63) rfl ?_); refine store_event (t := 3) (p := 63) (v := ?vo_w37) (w1 := (wr.setCell ⟨go10, (x6_1 : Int).toNat, none⟩ (.int .i64 (wrap64 ((rd x5_2 (rd t443 x33_2)) + 1))))) ?hg ?ho ?hn ?hr ?_; (case ho => rfl); (case hg => rfl); (case hn => rfl); (case hr => first | (go_simp; done) | (go_simp; rfl)); intro w37 hw; have hg : wr.grownBy w37 (some go10) := (by rw [hw]; exact HP36.2); have hp_ : Kd.R (Kd.int .i64) 3 w37 w.heap.size (fun k_ => some k_ ≠ (.slice (some ad446) t443.length co21 : Value).ownBlock) (.slice (some ⟨go10, 0, none⟩) x5_2.length co10) y451 := (by rw [hw, Ny451.out]; exact HP36.1); clear HP36; have n0_ := Aside0.mk (hp_); have n1_ := Aside0.mk (Kd.R_after (v := (.slice (some ⟨go10, 0, none⟩) x5_2.length co10)) (v1 := (.slice (some ⟨go10, 0, none⟩) x5_2.length co10)) (ok := (fun _ => True)) (by (with_reducible repeat (first | apply Kd.R_alloc | apply Kd.R_drewN | apply Kd.R_drew)); exact Kd.R_mono HO_31.out (fun _ hk => ⟨trivial, hk⟩)) hg (.inl rfl)); have n2_ := Aside0.mk ((by rw [hw]; exact below_set (HB.out) GB10.out : Below w.heap.size w w37)); clear HO_5; clear HO_31; clear HB; have HO_5 := n0_; have HO_31 := n1_; have HB := n2_; clear n0_ n1_ n2_; clear hg hw hp_))
                     (try simp only [← hl5_2])
                     go_roundg k2
                     case measure => have := HK1.out; have := HK2.out; omega
                     case rel => exact ⟨(y451), (wrap64 (x33_2 + 1)), kY, H', ⟨by have := HK1.out; have := HK2.out; omega⟩, ⟨by (try simp only [hl5_2]); (with_reducible repeat (first | apply Kd.R_alloc | apply Kd.R_drewN | apply Kd.R_drew)); exact HO_5.out⟩, ⟨by (try simp only [hl5_2]); (with_reducible repeat (first | apply Kd.R_alloc | apply Kd.R_drewN | apply Kd.R_drew)); exact Kd.R_mono HO_31.out (fun _ hk => hk.2)⟩, kI⟩
                    ·rw [if_neg c34] at H
                     have c34b0 : decide ((wrap64 ((rd x5_2 (rd t443 x33_2)) + 1)) < (rd x5_2 x6_1)) = false := decide_eq_false c34
                     clear c34
                     have H' := Aside0.mk H
                     clear H
                     have p446 : 0 ≤ (x33_2 : Int) := of_decide_eq_true (by first | (with_reducible assumption) | assumption)
                     have q446 : x33_2 < (t443.length : Int) := of_decide_eq_true (by first | (with_reducible assumption) | assumption)
                     obtain ⟨ad446, e446, hx446_0⟩ := Kd.at_int (Kd.R_reads' HO_31.out).2.2 x33_2 p446 q446
                     cases e446
                     replace p446 := eq_true p446
                     replace q446 := eq_true q446
                     have p447 : 0 ≤ ((rd t443 x33_2) : Int) := of_decide_eq_true (by first | (with_reducible assumption) | assumption)
                     have q447 : (rd t443 x33_2) < (x5_2.length : Int) := of_decide_eq_true (by first | (with_reducible assumption) | assumption)
                     obtain ⟨ad447, e447, hx447_0⟩ := Kd.at_int (Kd.R_reads' HO_5.out).2.2 (rd t443 x33_2) p447 q447
                     obtain rfl : (⟨go10, 0, none⟩ : Addr) = ad447 := (by injection e447)
                     (first | simp only [add_plain] at hx447_0 | simp only [add_at] at hx447_0 | simp only [Addr.add, Nat.zero_add] at hx447_0 | skip)
                     replace p447 := eq_true p447
                     replace q447 := eq_true q447
                     have p448 : 0 ≤ (x6_1 : Int) := of_decide_eq_true (by first | (with_reducible assumption) | assumption)
                     have q448 : x6_1 < (x5_2.length : Int) := of_decide_eq_true (by first | (with_reducible assumption) | assumption)
                     obtain ⟨ad448, e448, hx448_0⟩ := Kd.at_int (Kd.R_reads' HO_5.out).2.2 x6_1 p448 q448
                     obtain rfl : (⟨go10, 0, none⟩ : Addr) = ad448 := (by injection e448)
                     (first | simp only [add_plain] at hx448_0 | simp only [add_at] at hx448_0 | simp only [Addr.add, Nat.zero_add] at hx448_0 | skip)
                     replace p448 := eq_true p448
                     replace q448 := eq_true q448
                     have p450 : 0 ≤ (x6_1 : Int) := of_decide_eq_true (by first | (with_reducible assumption) | assumption)
                     have q450 : x6_1 < (x5_2.length : Int) := of_decide_eq_true (by first | (with_reducible assumption) | assumption)
                     obtain ⟨ad450, e450, hx450_0⟩ := Kd.at_int (Kd.R_reads' HO_5.out).2.2 x6_1 p450 q450
                     obtain rfl : (⟨go10, 0, none⟩ : Addr) = ad450 := (by injection e450)
                     (first | simp only [add_plain] at hx450_0 | simp only [add_at] at hx450_0 | simp only [Addr.add, Nat.zero_add] at hx450_0 | skip)
                     replace p450 := eq_true p450
                     replace q450 := eq_true q450
                     go_wp2
                     (try simp only [← hl5_2])
                     go_roundg k2
                     case measure => have := HK1.out; have := HK2.out; omega
                     case rel => exact ⟨(x5_2), (wrap64 (x33_2 + 1)), kY, H', ⟨by have := HK1.out; have := HK2.out; omega⟩, ⟨by (try simp only [hl5_2]); (with_reducible repeat (first | apply Kd.R_alloc | apply Kd.R_drewN | apply Kd.R_drew)); exact HO_5.out⟩, ⟨by (try simp only [hl5_2]); (with_reducible repeat (first | apply Kd.R_alloc | apply Kd.R_drewN | apply Kd.R_drew)); exact HO_31.out⟩, kI⟩
                  ·rw [if_neg c29] at H
                   exact absurd H (by simp)
                 ·rw [if_neg c28] at H
                  exact absurd H (by simp)
                ·rw [if_neg c27] at H
                 have c27b0 : decide (0 ≤ (rd x5_2 (rd t443 x33_2))) = false := decide_eq_false c27
                 clear c27
                 have H' := Aside0.mk H
                 clear H
                 have p446 : 0 ≤ (x33_2 : Int) := of_decide_eq_true (by first | (with_reducible assumption) | assumption)
                 have q446 : x33_2 < (t443.length : Int) := of_decide_eq_true (by first | (with_reducible assumption) | assumption)
                 obtain ⟨ad446, e446, hx446_0⟩ := Kd.at_int (Kd.R_reads' HO_31.out).2.2 x33_2 p446 q446
                 cases e446
                 replace p446 := eq_true p446
                 replace q446 := eq_true q446
                 have p447 : 0 ≤ ((rd t443 x33_2) : Int) := of_decide_eq_true (by first | (with_reducible assumption) | assumption)
                 have q447 : (rd t443 x33_2) < (x5_2.length : Int) := of_decide_eq_true (by first | (with_reducible assumption) | assumption)
                 obtain ⟨ad447, e447, hx447_0⟩ := Kd.at_int (Kd.R_reads' HO_5.out).2.2 (rd t443 x33_2) p447 q447
                 obtain rfl : (⟨go10, 0, none⟩ : Addr) = ad447 := (by injection e447)
                 (first | simp only [add_plain] at hx447_0 | simp only [add_at] at hx447_0 | simp only [Addr.add, Nat.zero_add] at hx447_0 | skip)
                 replace p447 := eq_true p447
                 replace q447 := eq_true q447
                 go_wp2
                 (try simp only [← hl5_2])
                 go_roundg k2
                 case measure => have := HK1.out; have := HK2.out; omega
                 case rel => exact ⟨(x5_2), (wrap64 (x33_2 + 1)), kY, H', ⟨by have := HK1.out; have := HK2.out; omega⟩, ⟨by (try simp only [hl5_2]); (with_reducible repeat (first | apply Kd.R_alloc | apply Kd.R_drewN | apply Kd.R_drew)); exact HO_5.out⟩, ⟨by (try simp only [hl5_2]); (with_reducible repeat (first | apply Kd.R_alloc | apply Kd.R_drewN | apply Kd.R_drew)); exact HO_31.out⟩, kI⟩
               ·rw [if_neg c26] at H
                exact absurd H (by simp)
              ·rw [if_neg c25] at H
               exact absurd H (by simp)
             ·rw [if_neg c24] at H
              exact absurd H (by simp)
            ·rw [if_neg c23] at H
             exact absurd H (by simp)
           ·rw [if_neg c22] at H
            have c22b0 : decide (x33_2 < (t443.length : Int)) = false := decide_eq_false c22
            (try (have c22b0r := c22b0; simp only [hl5_2] at c22b0r))
            clear c22
            have H' := Aside0.mk H
            clear H
            go_wp2
            (try simp only [← hl5_2])
            go_roundg k2
            case measure => have := HK1.out; have := HK2.out; omega
            case rel => exact ⟨(x5_2), (wrap64 (x6_1 - 1)), kY, H', ⟨by have := HK1.out; have := HK2.out; omega⟩, ⟨by (try simp only [hl5_2]); (with_reducible repeat (first | apply Kd.R_alloc | apply Kd.R_drewN | apply Kd.R_drew)); exact Kd.R_mono HO_5.out (fun _ hk => trivial)⟩, kI⟩
       ·rw [if_neg c9] at H
        exact absurd H (by simp)
      ·rw [if_neg c8] at H
       exact absurd H (by simp)
     ·rw [if_neg c7] at H
      have c7b0 : decide (0 ≤ x6_1) = false := decide_eq_false c7
      clear c7
      obtain rfl := Option.some.inj H
      go_wp2
      go_ret
      exact ⟨_, kZ, kW HO_5, kO⟩
  ·rw [if_neg c4] at H
   exact absurd H (by simp)
 ·rw [if_neg c3] at H
  exact absurd H (by simp)

/-! ### spec_LineDown: function 17 -/
mutual
def spec_LineDown.l0 : Nat → List (S41) → Int → List Int → List Int → Int → Option (List Int × Bool)
 | 0, _, _, _, _, _ => none
 | k + 1, x0, x2, x8, x9, x10 => if x10 = x2 then (some (x9, true)) else ((spec_faChildren.f k x0 x10).bind fun t460 => (spec_LineDown.l1 k x0 x2 x8 x9 x10 t460 (t460.length : Int) 0))
def spec_LineDown.l1 : Nat → List (S41) → Int → List Int → List Int → Int → List Int → Int → Int → Option (List Int × Bool)
 | 0, _, _, _, _, _, _, _, _ => none
 | k + 1, x0, x2, x8, x9, x10, x34, x35, x36 => if x36 < x35 then (if 0 ≤ x36 then (if x36 < (x34.length : Int) then (if 0 ≤ (rd x34 x36) then (if (rd x34 x36) < (x8.length : Int) then (if 0 ≤ x10 then (if x10 < (x8.length : Int) then (if (rd x8 (rd x34 x36)) = (wrap64 ((rd x8 x10) - 1)) then (if x9.length < 17592186044416 then (spec_LineDown.l0 k x0 x2 x8 (x9 ++ [rd x34 x36]) (rd x34 x36)) else (none)) else (spec_LineDown.l1 k x0 x2 x8 x9 x10 x34 x35 (wrap64 (x36 + 1)))) else (none)) else (none)) else (none)) else (none)) else (none)) else (none)) else (if x9.length < 17592186044416 then (spec_LineDown.l0 k x0 x2 x8 (x9 ++ [x10]) x10) else (none))
end
def spec_LineDown.f (k : Nat) (l0 : List (S41)) (a1 : Int) (a2 : Int) : Option (List Int × Bool) := (spec_faTwo.f k l0 a1 a2).bind fun t452 => (if t452 = true then ((spec_faDown.f k l0 a2).bind fun t453 => (if 0 ≤ a1 then (if a1 < (t453.length : Int) then (if (rd t453 a1) < 0 then (some (([] : List Int), false)) else (spec_LineDown.l0 k l0 a2 t453 (([a1] : List Int)) a1)) else (none)) else (none))) else (some (([] : List Int), false)))
set_option maxHeartbeats 8000000 in
set_option maxRecDepth 100000 in
theorem spec_LineDown.calls (k : Nat) (A0 : Option Addr) (c0 : Nat) (l0 : List (S41)) (a1 : Int) (a2 : Int) (r1 : List Int) (r2 : Bool) (w : World) (hr0 : Kd.C k41 w A0 l0.length l0) (hc0 : l0.length ≤ c0) (h : spec_LineDown.f k l0 a1 a2 = some (r1, r2)) :
  Calls Tryz.prog 17 #[.slice A0 l0.length c0, .int .i64 a1, .int .i64 a2] w fun e w' => ∃ v0_ : Value, e = .returned (.tuple #[v0_, .bool r2]) ∧ Kd.R (Kd.int .i64) 3 w' w.heap.size (fun _ => True) v0_ r1 ∧ Below w.heap.size w w' := by
 have HR0 := Aside0.mk hr0
 have HC0 := Aside0.mk hc0
 clear hr0 hc0
 have HB := Aside0.mk (Below.refl w.heap.size w)
 have H : ((spec_faTwo.f k l0 a1 a2).bind fun t452 => (if t452 = true then ((spec_faDown.f k l0 a2).bind fun t453 => (if 0 ≤ a1 then (if a1 < (t453.length : Int) then (if (rd t453 a1) < 0 then (some (([] : List Int), false)) else (spec_LineDown.l0 k l0 a2 t453 (([a1] : List Int)) a1)) else (none)) else (none))) else (some (([] : List Int), false)))) = some (r1, r2) := h
 clear h
 replace H := Option.bind_eq_some_iff.mp H
 obtain ⟨t452, A40, H⟩ := H
 have A4 := Aside0.mk A40
 clear A40
 by_cases c5 : t452 = true
 ·subst c5
  rw [if_pos rfl] at H
  replace H := Option.bind_eq_some_iff.mp H
  obtain ⟨t453, A60, H⟩ := H
  have A6 := Aside0.mk A60
  clear A60
  by_cases c7 : 0 ≤ a1
  ·rw [if_pos c7] at H
   have c7b0 : decide (0 ≤ a1) = true := decide_eq_true c7
   clear c7
   by_cases c8 : a1 < (t453.length : Int)
   ·rw [if_pos c8] at H
    have c8b0 : decide (a1 < (t453.length : Int)) = true := decide_eq_true c8
    clear c8
    by_cases c9 : (rd t453 a1) < 0
    ·rw [if_pos c9] at H
     have c9b0 : decide ((rd t453 a1) < 0) = true := decide_eq_true c9
     clear c9
     simp only [Option.some.injEq, Prod.mk.injEq] at H
     obtain ⟨rfl, rfl⟩ := H
     go_enter Tryz.func17, Tryz.ntmps17
     go_wp2_with (first | (go_at_call 40; (with_reducible refine (spec_faTwo.calls k _ _ l0 a1 a2 true _ ?side1 ?side2 A4.out).mono ?_); (case side1 => exact kD HR0); (case side2 => exact HC0.out); rintro e w10 ⟨rfl, hb⟩; replace HB := kH HB hb; (try clear hb)) | (go_at_call 53; (with_reducible refine (spec_faDown.calls k _ _ l0 a2 t453 _ ?side1 ?side2 A6.out).mono ?_); (case side1 => exact kDb HR0); (case side2 => exact HC0.out); rintro e w11 ⟨v454, rfl, ho0, hb⟩; have n0_ := Aside0.mk (Kd.R_lower ho0 (below_size kO)); have n1_ := kH HB hb; clear HB; have HO455 := n0_; have HB := n1_; clear n0_ n1_; (try clear hb); (try clear ho0); obtain ⟨Ao12, co12, eo12⟩ := Kd.R_slice HO455.out; subst eo12; have p456 : 0 ≤ (a1 : Int) := of_decide_eq_true (by first | (with_reducible assumption) | assumption); have q456 : a1 < (t453.length : Int) := of_decide_eq_true (by first | (with_reducible assumption) | assumption); obtain ⟨ad456, e456, hx456_0⟩ := Kd.at_int (Kd.R_reads' HO455.out).2.2 a1 p456 q456; cases e456; replace p456 := eq_true p456; replace q456 := eq_true q456))
     repeat (go_quiet (first | (go_at_call 40; (with_reducible refine (spec_faTwo.calls k _ _ l0 a1 a2 true _ ?side1 ?side2 A4.out).mono ?_); (case side1 => exact kD HR0); (case side2 => exact HC0.out); rintro e w10 ⟨rfl, hb⟩; replace HB := kH HB hb; (try clear hb)) | (go_at_call 53; (with_reducible refine (spec_faDown.calls k _ _ l0 a2 t453 _ ?side1 ?side2 A6.out).mono ?_); (case side1 => exact kDb HR0); (case side2 => exact HC0.out); rintro e w11 ⟨v454, rfl, ho0, hb⟩; have n0_ := Aside0.mk (Kd.R_lower ho0 (below_size kO)); have n1_ := kH HB hb; clear HB; have HO455 := n0_; have HB := n1_; clear n0_ n1_; (try clear hb); (try clear ho0); obtain ⟨Ao12, co12, eo12⟩ := Kd.R_slice HO455.out; subst eo12; have p456 : 0 ≤ (a1 : Int) := of_decide_eq_true (by first | (with_reducible assumption) | assumption); have q456 : a1 < (t453.length : Int) := of_decide_eq_true (by first | (with_reducible assumption) | assumption); obtain ⟨ad456, e456, hx456_0⟩ := Kd.at_int (Kd.R_reads' HO455.out).2.2 a1 p456 q456; cases e456; replace p456 := eq_true p456; replace q456 := eq_true q456)); try go_wp2_with (first | (go_at_call 40; (with_reducible refine (spec_faTwo.calls k _ _ l0 a1 a2 true _ ?side1 ?side2 A4.out).mono ?_); (case side1 => exact kD HR0); (case side2 => exact HC0.out); rintro e w10 ⟨rfl, hb⟩; replace HB := kH HB hb; (try clear hb)) | (go_at_call 53; (with_reducible refine (spec_faDown.calls k _ _ l0 a2 t453 _ ?side1 ?side2 A6.out).mono ?_); (case side1 => exact kDb HR0); (case side2 => exact HC0.out); rintro e w11 ⟨v454, rfl, ho0, hb⟩; have n0_ := Aside0.mk (Kd.R_lower ho0 (below_size kO)); have n1_ := kH HB hb; clear HB; have HO455 := n0_; have HB := n1_; clear n0_ n1_; (try clear hb); (try clear ho0); obtain ⟨Ao12, co12, eo12⟩ := Kd.R_slice HO455.out; subst eo12; have p456 : 0 ≤ (a1 : Int) := of_decide_eq_true (by first | (with_reducible assumption) | assumption); have q456 : a1 < (t453.length : Int) := of_decide_eq_true (by first | (with_reducible assumption) | assumption); obtain ⟨ad456, e456, hx456_0⟩ := Kd.at_int (Kd.R_reads' HO455.out).2.2 a1 p456 q456; cases e456; replace p456 := eq_true p456; replace q456 := eq_true q456)))
     go_ret2
     exact ⟨_, kZ, by first | exact Kd.R_nil _ _ _ _ _ | exact Kd.N_nil _ _ _ _ _ | exact Kd.V_nil _ _ _ _ _ | exact Kd.Q_nil _ _ _ _ _ | exact Kd.S_nil _ _ _ _ _, kO⟩
    ·rw [if_neg c9] at H
     have c9b0 : decide ((rd t453 a1) < 0) = false := decide_eq_false c9
     clear c9
     obtain ⟨y457, hy457⟩ : ∃ y_ : List Int, y_ = (([a1] : List Int)) := ⟨_, rfl⟩
     replace H : (spec_LineDown.l0 k l0 a2 t453 y457 a1) = some (r1, r2) := by first | (rw [hy457]; with_reducible exact H) | (have H2_ := (Option.bind_some _ _).symm.trans H; rw [hy457]; with_reducible exact H2_) | (have H2_ := (Option.bind_some _ _).symm.trans H; with_reducible exact H2_) | with_reducible exact H | (rw [hy457]; exact H) | exact H
     have Ny457 := Aside0.mk hy457
     clear hy457
     have H' := Aside0.mk H
     clear H
     go_enter Tryz.func17, Tryz.ntmps17
     go_wp2_with (first | (go_at_call 40; (with_reducible refine (spec_faTwo.calls k _ _ l0 a1 a2 true _ ?side1 ?side2 A4.out).mono ?_); (case side1 => exact kD HR0); (case side2 => exact HC0.out); rintro e w13 ⟨rfl, hb⟩; replace HB := kH HB hb; (try clear hb)) | (go_at_call 53; (with_reducible refine (spec_faDown.calls k _ _ l0 a2 t453 _ ?side1 ?side2 A6.out).mono ?_); (case side1 => exact kDb HR0); (case side2 => exact HC0.out); rintro e w14 ⟨v454, rfl, ho0, hb⟩; have n0_ := Aside0.mk (Kd.R_lower ho0 (below_size kO)); have n1_ := kH HB hb; clear HB; have HO455 := n0_; have HB := n1_; clear n0_ n1_; (try clear hb); (try clear ho0); obtain ⟨Ao15, co15, eo15⟩ := Kd.R_slice HO455.out; subst eo15; have p456 : 0 ≤ (a1 : Int) := of_decide_eq_true (by first | (with_reducible assumption) | assumption); have q456 : a1 < (t453.length : Int) := of_decide_eq_true (by first | (with_reducible assumption) | assumption); obtain ⟨ad456, e456, hx456_0⟩ := Kd.at_int (Kd.R_reads' HO455.out).2.2 a1 p456 q456; cases e456; replace p456 := eq_true p456; replace q456 := eq_true q456) | ((with_reducible refine gate_dst (N := 27) rfl ?_); refine Kd.R_lit (Kd.int .i64) _ 3 ?hg (N := 27) ?hd (xs := ([a1] : List Int)) (inner := [.int .i64 a1]) (ok := fun _ => True) (okp := fun _ => True) ?hr ?hp (fun _ hk => hk) trivial (Below.refl _ _) (Nat.le_refl _) (by simp) ?_; (case hd => rfl); (case hg => rfl); (case hr => first | (go_simp; done) | (go_simp; rfl)); (case hp => exact (Reps.one (show Kd.M (Kd.int .i64) _ _ _ a1 [.int .i64 a1] from rfl) (Reps.none _ _))); intro v458 w16 ho17 hb hg_ hnew_; clear hg_ hnew_; (first | rw [← Ny457.out] at ho17 | (simp only [Int.reduceToNat] at ho17; rw [← Ny457.out] at ho17)); have n0_ := Aside0.mk (Kd.R_elder' (kW HO455) (Kd.R_base ho17) hb); have n1_ := Aside0.mk (Kd.R_lower (Kd.R_new' ho17 (Kd.R_lt (kW HO455))) (below_size kO)); have n2_ := kH HB hb; clear HO455; clear HB; have HO455 := n0_; have HO459 := n1_; have HB := n2_; clear n0_ n1_ n2_; clear hb ho17))
     repeat (go_quiet (first | (go_at_call 40; (with_reducible refine (spec_faTwo.calls k _ _ l0 a1 a2 true _ ?side1 ?side2 A4.out).mono ?_); (case side1 => exact kD HR0); (case side2 => exact HC0.out); rintro e w13 ⟨rfl, hb⟩; replace HB := kH HB hb; (try clear hb)) | (go_at_call 53; (with_reducible refine (spec_faDown.calls k _ _ l0 a2 t453 _ ?side1 ?side2 A6.out).mono ?_); (case side1 => exact kDb HR0); (case side2 => exact HC0.out); rintro e w14 ⟨v454, rfl, ho0, hb⟩; have n0_ := Aside0.mk (Kd.R_lower ho0 (below_size kO)); have n1_ := kH HB hb; clear HB; have HO455 := n0_; have HB := n1_; clear n0_ n1_; (try clear hb); (try clear ho0); obtain ⟨Ao15, co15, eo15⟩ := Kd.R_slice HO455.out; subst eo15; have p456 : 0 ≤ (a1 : Int) := of_decide_eq_true (by first | (with_reducible assumption) | assumption); have q456 : a1 < (t453.length : Int) := of_decide_eq_true (by first | (with_reducible assumption) | assumption); obtain ⟨ad456, e456, hx456_0⟩ := Kd.at_int (Kd.R_reads' HO455.out).2.2 a1 p456 q456; cases e456; replace p456 := eq_true p456; replace q456 := eq_true q456) | ((with_reducible refine gate_dst (N := 27) rfl ?_); refine Kd.R_lit (Kd.int .i64) _ 3 ?hg (N := 27) ?hd (xs := ([a1] : List Int)) (inner := [.int .i64 a1]) (ok := fun _ => True) (okp := fun _ => True) ?hr ?hp (fun _ hk => hk) trivial (Below.refl _ _) (Nat.le_refl _) (by simp) ?_; (case hd => rfl); (case hg => rfl); (case hr => first | (go_simp; done) | (go_simp; rfl)); (case hp => exact (Reps.one (show Kd.M (Kd.int .i64) _ _ _ a1 [.int .i64 a1] from rfl) (Reps.none _ _))); intro v458 w16 ho17 hb hg_ hnew_; clear hg_ hnew_; (first | rw [← Ny457.out] at ho17 | (simp only [Int.reduceToNat] at ho17; rw [← Ny457.out] at ho17)); have n0_ := Aside0.mk (Kd.R_elder' (kW HO455) (Kd.R_base ho17) hb); have n1_ := Aside0.mk (Kd.R_lower (Kd.R_new' ho17 (Kd.R_lt (kW HO455))) (below_size kO)); have n2_ := kH HB hb; clear HO455; clear HB; have HO455 := n0_; have HO459 := n1_; have HB := n2_; clear n0_ n1_ n2_; clear hb ho17)); try go_wp2_with (first | (go_at_call 40; (with_reducible refine (spec_faTwo.calls k _ _ l0 a1 a2 true _ ?side1 ?side2 A4.out).mono ?_); (case side1 => exact kD HR0); (case side2 => exact HC0.out); rintro e w13 ⟨rfl, hb⟩; replace HB := kH HB hb; (try clear hb)) | (go_at_call 53; (with_reducible refine (spec_faDown.calls k _ _ l0 a2 t453 _ ?side1 ?side2 A6.out).mono ?_); (case side1 => exact kDb HR0); (case side2 => exact HC0.out); rintro e w14 ⟨v454, rfl, ho0, hb⟩; have n0_ := Aside0.mk (Kd.R_lower ho0 (below_size kO)); have n1_ := kH HB hb; clear HB; have HO455 := n0_; have HB := n1_; clear n0_ n1_; (try clear hb); (try clear ho0); obtain ⟨Ao15, co15, eo15⟩ := Kd.R_slice HO455.out; subst eo15; have p456 : 0 ≤ (a1 : Int) := of_decide_eq_true (by first | (with_reducible assumption) | assumption); have q456 : a1 < (t453.length : Int) := of_decide_eq_true (by first | (with_reducible assumption) | assumption); obtain ⟨ad456, e456, hx456_0⟩ := Kd.at_int (Kd.R_reads' HO455.out).2.2 a1 p456 q456; cases e456; replace p456 := eq_true p456; replace q456 := eq_true q456) | ((with_reducible refine gate_dst (N := 27) rfl ?_); refine Kd.R_lit (Kd.int .i64) _ 3 ?hg (N := 27) ?hd (xs := ([a1] : List Int)) (inner := [.int .i64 a1]) (ok := fun _ => True) (okp := fun _ => True) ?hr ?hp (fun _ hk => hk) trivial (Below.refl _ _) (Nat.le_refl _) (by simp) ?_; (case hd => rfl); (case hg => rfl); (case hr => first | (go_simp; done) | (go_simp; rfl)); (case hp => exact (Reps.one (show Kd.M (Kd.int .i64) _ _ _ a1 [.int .i64 a1] from rfl) (Reps.none _ _))); intro v458 w16 ho17 hb hg_ hnew_; clear hg_ hnew_; (first | rw [← Ny457.out] at ho17 | (simp only [Int.reduceToNat] at ho17; rw [← Ny457.out] at ho17)); have n0_ := Aside0.mk (Kd.R_elder' (kW HO455) (Kd.R_base ho17) hb); have n1_ := Aside0.mk (Kd.R_lower (Kd.R_new' ho17 (Kd.R_lt (kW HO455))) (below_size kO)); have n2_ := kH HB hb; clear HO455; clear HB; have HO455 := n0_; have HO459 := n1_; have HB := n2_; clear n0_ n1_ n2_; clear hb ho17)))
     go_loopg [9, 10] k (fun kq v9 v10 w' => ∃ (x9_1 : List Int) (x10_1 : Int), v10 = .int .i64 x10_1 ∧ Aside0 (spec_LineDown.l0 kq l0 a2 t453 x9_1 x10_1 = some (r1, r2)) ∧ Aside0 (kq ≤ k) ∧ Aside0 (Kd.R (Kd.int .i64) 3 w' w.heap.size (fun k_ => some k_ ≠ (v9 : Value).ownBlock) (.slice (some ad456) t453.length co15) t453) ∧ Aside0 (Kd.R (Kd.int .i64) 3 w' w.heap.size (fun k_ => some k_ ≠ ((.slice (some ad456) t453.length co15) : Value).ownBlock) v9 x9_1) ∧ Aside0 (Below w.heap.size w w'))
     case atStart => exact ⟨(y457), (a1), kY, H', ⟨Nat.le_refl _⟩, ⟨by (with_reducible repeat (first | apply Kd.R_alloc | apply Kd.R_drewN | apply Kd.R_drew)); exact Kd.R_mono HO455.out (fun _ hk => hk.2)⟩, ⟨by (with_reducible repeat (first | apply Kd.R_alloc | apply Kd.R_drewN | apply Kd.R_drew)); exact Kd.R_mono HO459.out (fun _ hk => hk.2)⟩, kI⟩
     case round =>
      clear H'
      try clear c5
      try clear c7
      try clear c7b0
      try clear c8
      try clear c8b0
      try clear c9
      try clear c9b0
      try clear p456
      obtain ⟨x9_1, x10_1, rfl, HA, HK1, HO_8, HO_9, HB⟩ := hrel
      cases gk with
      | zero => exact absurd HA.out (by simp [spec_LineDown.l0])
      | succ k1 =>
       have H := HA.out
       clear HA
       simp only [spec_LineDown.l0] at H
       by_cases c18 : x10_1 = a2
       ·rw [if_pos c18] at H
        have c18b0 : (x10_1 == a2) = true := beq_iff_eq.mpr c18
        have c18b1 : (x10_1 != a2) = false := bne_eq_false_iff_eq.mpr c18
        clear c18
        simp only [Option.some.injEq, Prod.mk.injEq] at H
        obtain ⟨rfl, rfl⟩ := H
        go_wp2
        repeat (go_quiet (fail); try go_wp2)
        go_ret2
        exact ⟨_, kZ, by (with_reducible repeat (first | apply Kd.R_alloc | apply Kd.R_drewN | apply Kd.R_drew)); exact Kd.R_mono HO_9.out (fun _ hk => trivial), kO⟩
       ·rw [if_neg c18] at H
        have c18b0 : (x10_1 == a2) = false := beq_eq_false_iff_ne.mpr c18
        have c18b1 : (x10_1 != a2) = true := bne_iff_ne.mpr c18
        replace H := Option.bind_eq_some_iff.mp H
        obtain ⟨t460, A190, H⟩ := H
        have A19 := Aside0.mk A190
        clear A190
        have H' := Aside0.mk H
        clear H
        go_wp2_with (first | (go_at_call 54; (with_reducible refine (spec_faChildren.calls k1 _ _ l0 x10_1 t460 _ ?side1 ?side2 A19.out).mono ?_); (case side1 => exact kDb HR0); (case side2 => exact HC0.out); rintro e w20 ⟨v461, rfl, ho0, hb⟩; have n0_ := Aside0.mk (Kd.R_elder' (kW HO_8) (Kd.R_base ho0) hb); have n1_ := Aside0.mk (Kd.R_elder' (kW HO_9) (Kd.R_base ho0) hb); have n2_ := Aside0.mk (Kd.R_lower (Kd.R_new' (Kd.R_new' ho0 (Kd.R_lt (kW HO_8))) (Kd.R_lt (kW HO_9))) (below_size kO)); have n3_ := kH HB hb; clear HO_8; clear HO_9; clear HB; have HO_8 := n0_; have HO_9 := n1_; have HO462 := n2_; have HB := n3_; clear n0_ n1_ n2_ n3_; (try clear hb); (try clear ho0); obtain ⟨Ao21, co21, eo21⟩ := Kd.R_slice HO462.out; subst eo21))
        repeat (go_quiet (first | (go_at_call 54; (with_reducible refine (spec_faChildren.calls k1 _ _ l0 x10_1 t460 _ ?side1 ?side2 A19.out).mono ?_); (case side1 => exact kDb HR0); (case side2 => exact HC0.out); rintro e w20 ⟨v461, rfl, ho0, hb⟩; have n0_ := Aside0.mk (Kd.R_elder' (kW HO_8) (Kd.R_base ho0) hb); have n1_ := Aside0.mk (Kd.R_elder' (kW HO_9) (Kd.R_base ho0) hb); have n2_ := Aside0.mk (Kd.R_lower (Kd.R_new' (Kd.R_new' ho0 (Kd.R_lt (kW HO_8))) (Kd.R_lt (kW HO_9))) (below_size kO)); have n3_ := kH HB hb; clear HO_8; clear HO_9; clear HB; have HO_8 := n0_; have HO_9 := n1_; have HO462 := n2_; have HB := n3_; clear n0_ n1_ n2_ n3_; (try clear hb); (try clear ho0); obtain ⟨Ao21, co21, eo21⟩ := Kd.R_slice HO462.out; subst eo21)); try go_wp2_with (first | (go_at_call 54; (with_reducible refine (spec_faChildren.calls k1 _ _ l0 x10_1 t460 _ ?side1 ?side2 A19.out).mono ?_); (case side1 => exact kDb HR0); (case side2 => exact HC0.out); rintro e w20 ⟨v461, rfl, ho0, hb⟩; have n0_ := Aside0.mk (Kd.R_elder' (kW HO_8) (Kd.R_base ho0) hb); have n1_ := Aside0.mk (Kd.R_elder' (kW HO_9) (Kd.R_base ho0) hb); have n2_ := Aside0.mk (Kd.R_lower (Kd.R_new' (Kd.R_new' ho0 (Kd.R_lt (kW HO_8))) (Kd.R_lt (kW HO_9))) (below_size kO)); have n3_ := kH HB hb; clear HO_8; clear HO_9; clear HB; have HO_8 := n0_; have HO_9 := n1_; have HO462 := n2_; have HB := n3_; clear n0_ n1_ n2_ n3_; (try clear hb); (try clear ho0); obtain ⟨Ao21, co21, eo21⟩ := Kd.R_slice HO462.out; subst eo21)))
        go_loopg [10, 36] k1 (fun kq v10 v36 w' => ∃ (x10_2 : Int) (x36_2 : Int), v10 = .int .i64 x10_2 ∧ v36 = .int .i64 x36_2 ∧ Aside0 (spec_LineDown.l1 kq l0 a2 t453 x9_1 x10_2 t460 (t460.length : Int) x36_2 = some (r1, r2)) ∧ Aside0 (kq ≤ k1) ∧ Aside0 (Kd.R (Kd.int .i64) 3 w' w.heap.size (fun k_ => some k_ ≠ (u9 : Value).ownBlock ∧ some k_ ≠ ((.slice Ao21 t460.length co21) : Value).ownBlock) (.slice (some ad456) t453.length co15) t453) ∧ Aside0 (Kd.R (Kd.int .i64) 3 w' w.heap.size (fun k_ => some k_ ≠ ((.slice (some ad456) t453.length co15) : Value).ownBlock ∧ some k_ ≠ ((.slice Ao21 t460.length co21) : Value).ownBlock) u9 x9_1) ∧ Aside0 (Kd.R (Kd.int .i64) 3 w' w.heap.size (fun k_ => some k_ ≠ ((.slice (some ad456) t453.length co15) : Value).ownBlock ∧ some k_ ≠ (u9 : Value).ownBlock) (.slice Ao21 t460.length co21) t460) ∧ Aside0 (Below w.heap.size w w'))
        case atStart => exact ⟨(x10_1), (0), kY, kY, H', ⟨Nat.le_refl _⟩, ⟨kW HO_8⟩, ⟨kW HO_9⟩, ⟨by (with_reducible repeat (first | apply Kd.R_alloc | apply Kd.R_drewN | apply Kd.R_drew)); exact Kd.R_mono HO462.out (fun _ hk => ⟨hk.1.2, hk.2⟩)⟩, kI⟩
        case round =>
         clear H'
         try clear c5
         try clear c7
         try clear c7b0
         try clear c8
         try clear c8b0
         try clear c9
         try clear c9b0
         try clear c18
         try clear c18b0
         try clear c18b1
         try clear p456
         obtain ⟨x10_2, x36_2, rfl, rfl, HA, HK2, HO_8, HO_9, HO_34, HB⟩ := hrel
         cases gk with
         | zero => exact absurd HA.out (by simp [spec_LineDown.l1])
         | succ k2 =>
          have H := HA.out
          clear HA
          simp only [spec_LineDown.l1] at H
          by_cases c22 : x36_2 < (t460.length : Int)
          ·rw [if_pos c22] at H
           have c22b0 : decide (x36_2 < (t460.length : Int)) = true := decide_eq_true c22
           clear c22
           by_cases c23 : 0 ≤ x36_2
           ·rw [if_pos c23] at H
            have c23b0 : decide (0 ≤ x36_2) = true := decide_eq_true c23
            clear c23
            by_cases c24 : x36_2 < (t460.length : Int)
            ·rw [if_pos c24] at H
             have c24b0 : decide (x36_2 < (t460.length : Int)) = true := decide_eq_true c24
             clear c24
             by_cases c25 : 0 ≤ (rd t460 x36_2)
             ·rw [if_pos c25] at H
              have c25b0 : decide (0 ≤ (rd t460 x36_2)) = true := decide_eq_true c25
              clear c25
              by_cases c26 : (rd t460 x36_2) < (t453.length : Int)
              ·rw [if_pos c26] at H
               have c26b0 : decide ((rd t460 x36_2) < (t453.length : Int)) = true := decide_eq_true c26
               clear c26
               by_cases c27 : 0 ≤ x10_2
               ·rw [if_pos c27] at H
                have c27b0 : decide (0 ≤ x10_2) = true := decide_eq_true c27
                clear c27
                by_cases c28 : x10_2 < (t453.length : Int)
                ·rw [if_pos c28] at H
                 have c28b0 : decide (x10_2 < (t453.length : Int)) = true := decide_eq_true c28
                 clear c28
                 by_cases c29 : (rd t453 (rd t460 x36_2)) = (wrap64 ((rd t453 x10_2) - 1))
                 ·rw [if_pos c29] at H
                  have c29b0 : ((rd t453 (rd t460 x36_2)) == (wrap64 ((rd t453 x10_2) - 1))) = true := beq_iff_eq.mpr c29
                  have c29b1 : ((rd t453 (rd t460 x36_2)) != (wrap64 ((rd t453 x10_2) - 1))) = false := bne_eq_false_iff_eq.mpr c29
                  clear c29
                  by_cases c30 : x9_1.length < 17592186044416
                  ·rw [if_pos c30] at H
                   have LMc30 := Aside0.mk c30
                   clear c30
                   obtain ⟨y466, hy466⟩ : ∃ y_ : List Int, y_ = (x9_1 ++ [rd t460 x36_2]) := ⟨_, rfl⟩
                   replace H : (spec_LineDown.l0 k2 l0 a2 t453 y466 (rd t460 x36_2)) = some (r1, r2) := by first | (rw [hy466]; with_reducible exact H) | (have H2_ := (Option.bind_some _ _).symm.trans H; rw [hy466]; with_reducible exact H2_) | (have H2_ := (Option.bind_some _ _).symm.trans H; with_reducible exact H2_) | with_reducible exact H | (rw [hy466]; exact H) | exact H
                   have Ny466 := Aside0.mk hy466
                   clear hy466
                   have H' := Aside0.mk H
                   clear H
                   have p463 : 0 ≤ (x36_2 : Int) := of_decide_eq_true (by first | (with_reducible assumption) | assumption)
                   have q463 : x36_2 < (t460.length : Int) := of_decide_eq_true (by first | (with_reducible assumption) | assumption)
                   obtain ⟨ad463, e463, hx463_0⟩ := Kd.at_int (Kd.R_reads' HO_34.out).2.2 x36_2 p463 q463
                   cases e463
                   replace p463 := eq_true p463
                   replace q463 := eq_true q463
                   have p464 : 0 ≤ ((rd t460 x36_2) : Int) := of_decide_eq_true (by first | (with_reducible assumption) | assumption)
                   have q464 : (rd t460 x36_2) < (t453.length : Int) := of_decide_eq_true (by first | (with_reducible assumption) | assumption)
                   obtain ⟨ad464, e464, hx464_0⟩ := Kd.at_int (Kd.R_reads' HO_8.out).2.2 (rd t460 x36_2) p464 q464
                   obtain rfl : ad456 = ad464 := (by injection e464)
                   replace p464 := eq_true p464
                   replace q464 := eq_true q464
                   have p465 : 0 ≤ (x10_2 : Int) := of_decide_eq_true (by first | (with_reducible assumption) | assumption)
                   have q465 : x10_2 < (t453.length : Int) := of_decide_eq_true (by first | (with_reducible assumption) | assumption)
                   obtain ⟨ad465, e465, hx465_0⟩ := Kd.at_int (Kd.R_reads' HO_8.out).2.2 x10_2 p465 q465
                   obtain rfl : ad456 = ad465 := (by injection e465)
                   replace p465 := eq_true p465
                   replace q465 := eq_true q465
                   go_wp2_with (first | ((with_reducible refine gate_builtin (b := .append) (xs := #[.tmp 52, .tmp 54]) rfl ?_); at_builtin; refine Kd.R_append (Kd.int .i64) (w0 := w) w.heap.size rfl (.tmp 52) (.tmp 54) 31 3 (.int .i64 0) 8 rfl Tryz.underlying31 info3 rfl (by decide) (by omega) u9 x9_1 (rd t460 x36_2) [.int .i64 (rd t460 x36_2)] (fun k_ => some k_ ≠ (.slice (some ad456) t453.length co15 : Value).ownBlock ∧ some k_ ≠ (.slice (some ad463) t460.length co21 : Value).ownBlock) (fun _ => False) rfl rfl ?aP (fun _ hk => hk.elim) ?aF ?aO ?aB ?aS ?aL ?_; (case aP => exact rfl); (case aB => exact kO); (case aF => exact (fun k_ hk => ⟨Kd.fresh' (Kd.R_lt (kW HO_8)) k_ hk, Kd.fresh' (Kd.R_lt (kW HO_34)) k_ hk⟩)); (case aO => exact (kW HO_9)); (case aS => exact (below_size kO)); (case aL => have := LMc30.out; omega); intro v467 w31 ho hb hg hat; rw [← Ny466.out] at ho; have n0_ := Aside0.mk (Kd.R_after (ok := (fun k_ => some k_ ≠ (.slice (some ad463) t460.length co21 : Value).ownBlock)) (by (with_reducible repeat (first | apply Kd.R_alloc | apply Kd.R_drewN | apply Kd.R_drew)); exact Kd.R_mono HO_8.out (fun _ hk => ⟨hk.2, hk.1⟩)) hg hat); have n1_ := Aside0.mk (Kd.R_after (ok := (fun k_ => some k_ ≠ (.slice (some ad456) t453.length co15 : Value).ownBlock)) (kW HO_34) hg hat); have n2_ := Aside0.mk (hb); have n3_ := Aside0.mk (ho); clear HO_8; clear HO_34; clear HB; clear HO_9; have HO_8 := n0_; have HO_34 := n1_; have HB := n2_; have HO468 := n3_; clear n0_ n1_ n2_ n3_; clear ho hb hg hat))
                   repeat (go_quiet (first | ((with_reducible refine gate_builtin (b := .append) (xs := #[.tmp 52, .tmp 54]) rfl ?_); at_builtin; refine Kd.R_append (Kd.int .i64) (w0 := w) w.heap.size rfl (.tmp 52) (.tmp 54) 31 3 (.int .i64 0) 8 rfl Tryz.underlying31 info3 rfl (by decide) (by omega) u9 x9_1 (rd t460 x36_2) [.int .i64 (rd t460 x36_2)] (fun k_ => some k_ ≠ (.slice (some ad456) t453.length co15 : Value).ownBlock ∧ some k_ ≠ (.slice (some ad463) t460.length co21 : Value).ownBlock) (fun _ => False) rfl rfl ?aP (fun _ hk => hk.elim) ?aF ?aO ?aB ?aS ?aL ?_; (case aP => exact rfl); (case aB => exact kO); (case aF => exact (fun k_ hk => ⟨Kd.fresh' (Kd.R_lt (kW HO_8)) k_ hk, Kd.fresh' (Kd.R_lt (kW HO_34)) k_ hk⟩)); (case aO => exact (kW HO_9)); (case aS => exact (below_size kO)); (case aL => have := LMc30.out; omega); intro v467 w31 ho hb hg hat; rw [← Ny466.out] at ho; have n0_ := Aside0.mk (Kd.R_after (ok := (fun k_ => some k_ ≠ (.slice (some ad463) t460.length co21 : Value).ownBlock)) (by (with_reducible repeat (first | apply Kd.R_alloc | apply Kd.R_drewN | apply Kd.R_drew)); exact Kd.R_mono HO_8.out (fun _ hk => ⟨hk.2, hk.1⟩)) hg hat); have n1_ := Aside0.mk (Kd.R_after (ok := (fun k_ => some k_ ≠ (.slice (some ad456) t453.length co15 : Value).ownBlock)) (kW HO_34) hg hat); have n2_ := Aside0.mk (hb); have n3_ := Aside0.mk (ho); clear HO_8; clear HO_34; clear HB; clear HO_9; have HO_8 := n0_; have HO_34 := n1_; have HB := n2_; have HO468 := n3_; clear n0_ n1_ n2_ n3_; clear ho hb hg hat)); try go_wp2_with (first | ((with_reducible refine gate_builtin (b := .append) (xs := #[.tmp 52, .tmp 54]) rfl ?_); at_builtin; refine Kd.R_append (Kd.int .i64) (w0 := w) w.heap.size rfl (.tmp 52) (.tmp 54) 31 3 (.int .i64 0) 8 rfl Tryz.underlying31 info3 rfl (by decide) (by omega) u9 x9_1 (rd t460 x36_2) [.int .i64 (rd t460 x36_2)] (fun k_ => some k_ ≠ (.slice (some ad456) t453.length co15 : Value).ownBlock ∧ some k_ ≠ (.slice (some ad463) t460.length co21 : Value).ownBlock) (fun _ => False) rfl rfl ?aP (fun _ hk => hk.elim) ?aF ?aO ?aB ?aS ?aL ?_; (case aP => exact rfl); (case aB => exact kO); (case aF => exact (fun k_ hk => ⟨Kd.fresh' (Kd.R_lt (kW HO_8)) k_ hk, Kd.fresh' (Kd.R_lt (kW HO_34)) k_ hk⟩)); (case aO => exact (kW HO_9)); (case aS => exact (below_size kO)); (case aL => have := LMc30.out; omega); intro v467 w31 ho hb hg hat; rw [← Ny466.out] at ho; have n0_ := Aside0.mk (Kd.R_after (ok := (fun k_ => some k_ ≠ (.slice (some ad463) t460.length co21 : Value).ownBlock)) (by (with_reducible repeat (first | apply Kd.R_alloc | apply Kd.R_drewN | apply Kd.R_drew)); exact Kd.R_mono HO_8.out (fun _ hk => ⟨hk.2, hk.1⟩)) hg hat); have n1_ := Aside0.mk (Kd.R_after (ok := (fun k_ => some k_ ≠ (.slice (some ad456) t453.length co15 : Value).ownBlock)) (kW HO_34) hg hat); have n2_ := Aside0.mk (hb); have n3_ := Aside0.mk (ho); clear HO_8; clear HO_34; clear HB; clear HO_9; have HO_8 := n0_; have HO_34 := n1_; have HB := n2_; have HO468 := n3_; clear n0_ n1_ n2_ n3_; clear ho hb hg hat)))
                   go_roundg k2
                   case measure => have := HK1.out; have := HK2.out; omega
                   case rel => exact ⟨(y466), (rd t460 x36_2), kY, H', ⟨by have := HK1.out; have := HK2.out; omega⟩, ⟨by (with_reducible repeat (first | apply Kd.R_alloc | apply Kd.R_drewN | apply Kd.R_drew)); exact Kd.R_mono HO_8.out (fun _ hk => hk.2)⟩, ⟨by (with_reducible repeat (first | apply Kd.R_alloc | apply Kd.R_drewN | apply Kd.R_drew)); exact Kd.R_mono HO468.out (fun _ hk => hk.1)⟩, kI⟩
                  ·rw [if_neg c30] at H
                   exact absurd H (by simp)
                 ·rw [if_neg c29] at H
                  have c29b0 : ((rd t453 (rd t460 x36_2)) == (wrap64 ((rd t453 x10_2) - 1))) = false := beq_eq_false_iff_ne.mpr c29
                  have c29b1 : ((rd t453 (rd t460 x36_2)) != (wrap64 ((rd t453 x10_2) - 1))) = true := bne_iff_ne.mpr c29
                  have H' := Aside0.mk H
                  clear H
                  have p463 : 0 ≤ (x36_2 : Int) := of_decide_eq_true (by first | (with_reducible assumption) | assumption)
                  have q463 : x36_2 < (t460.length : Int) := of_decide_eq_true (by first | (with_reducible assumption) | assumption)
                  obtain ⟨ad463, e463, hx463_0⟩ := Kd.at_int (Kd.R_reads' HO_34.out).2.2 x36_2 p463 q463
                  cases e463
                  replace p463 := eq_true p463
                  replace q463 := eq_true q463
                  have p464 : 0 ≤ ((rd t460 x36_2) : Int) := of_decide_eq_true (by first | (with_reducible assumption) | assumption)
                  have q464 : (rd t460 x36_2) < (t453.length : Int) := of_decide_eq_true (by first | (with_reducible assumption) | assumption)
                  obtain ⟨ad464, e464, hx464_0⟩ := Kd.at_int (Kd.R_reads' HO_8.out).2.2 (rd t460 x36_2) p464 q464
                  obtain rfl : ad456 = ad464 := (by injection e464)
                  replace p464 := eq_true p464
                  replace q464 := eq_true q464
                  have p465 : 0 ≤ (x10_2 : Int) := of_decide_eq_true (by first | (with_reducible assumption) | assumption)
                  have q465 : x10_2 < (t453.length : Int) := of_decide_eq_true (by first | (with_reducible assumption) | assumption)
                  obtain ⟨ad465, e465, hx465_0⟩ := Kd.at_int (Kd.R_reads' HO_8.out).2.2 x10_2 p465 q465
                  obtain rfl : ad456 = ad465 := (by injection e465)
                  replace p465 := eq_true p465
                  replace q465 := eq_true q465
                  go_wp2
                  repeat (go_quiet (fail); try go_wp2)
                  go_roundg k2
                  case measure => have := HK1.out; have := HK2.out; omega
                  case rel => exact ⟨(x10_2), (wrap64 (x36_2 + 1)), kY, kY, H', ⟨by have := HK1.out; have := HK2.out; omega⟩, ⟨kW HO_8⟩, ⟨kW HO_9⟩, ⟨kW HO_34⟩, kI⟩
                ·rw [if_neg c28] at H
                 exact absurd H (by simp)
               ·rw [if_neg c27] at H
                exact absurd H (by simp)
              ·rw [if_neg c26] at H
               exact absurd H (by simp)
             ·rw [if_neg c25] at H
              exact absurd H (by simp)
            ·rw [if_neg c24] at H
             exact absurd H (by simp)
           ·rw [if_neg c23] at H
            exact absurd H (by simp)
          ·rw [if_neg c22] at H
           have c22b0 : decide (x36_2 < (t460.length : Int)) = false := decide_eq_false c22
           clear c22
           by_cases c32 : x9_1.length < 17592186044416
           ·rw [if_pos c32] at H
            have LMc32 := Aside0.mk c32
            clear c32
            obtain ⟨y469, hy469⟩ : ∃ y_ : List Int, y_ = (x9_1 ++ [x10_2]) := ⟨_, rfl⟩
            replace H : (spec_LineDown.l0 k2 l0 a2 t453 y469 x10_2) = some (r1, r2) := by first | (rw [hy469]; with_reducible exact H) | (have H2_ := (Option.bind_some _ _).symm.trans H; rw [hy469]; with_reducible exact H2_) | (have H2_ := (Option.bind_some _ _).symm.trans H; with_reducible exact H2_) | with_reducible exact H | (rw [hy469]; exact H) | exact H
            have Ny469 := Aside0.mk hy469
            clear hy469
            have H' := Aside0.mk H
            clear H
            go_wp2_with (first | ((with_reducible refine gate_builtin (b := .append) (xs := #[.tmp 52, .tmp 54]) rfl ?_); at_builtin; refine Kd.R_append (Kd.int .i64) (w0 := w) w.heap.size rfl (.tmp 52) (.tmp 54) 31 3 (.int .i64 0) 8 rfl Tryz.underlying31 info3 rfl (by decide) (by omega) u9 x9_1 x10_2 [.int .i64 x10_2] (fun k_ => some k_ ≠ (.slice (some ad456) t453.length co15 : Value).ownBlock ∧ some k_ ≠ (.slice Ao21 t460.length co21 : Value).ownBlock) (fun _ => False) rfl rfl ?aP (fun _ hk => hk.elim) ?aF ?aO ?aB ?aS ?aL ?_; (case aP => exact rfl); (case aB => exact kO); (case aF => exact (fun k_ hk => ⟨Kd.fresh' (Kd.R_lt (kW HO_8)) k_ hk, Kd.fresh' (Kd.R_lt (kW HO_34)) k_ hk⟩)); (case aO => exact (kW HO_9)); (case aS => exact (below_size kO)); (case aL => have := LMc32.out; omega); intro v470 w33 ho hb hg hat; rw [← Ny469.out] at ho; have n0_ := Aside0.mk (Kd.R_after (ok := (fun k_ => some k_ ≠ (.slice Ao21 t460.length co21 : Value).ownBlock)) (by (with_reducible repeat (first | apply Kd.R_alloc | apply Kd.R_drewN | apply Kd.R_drew)); exact Kd.R_mono HO_8.out (fun _ hk => ⟨hk.2, hk.1⟩)) hg hat); have n1_ := Aside0.mk (Kd.R_after (ok := (fun k_ => some k_ ≠ (.slice (some ad456) t453.length co15 : Value).ownBlock)) (kW HO_34) hg hat); have n2_ := Aside0.mk (hb); have n3_ := Aside0.mk (ho); clear HO_8; clear HO_34; clear HB; clear HO_9; have HO_8 := n0_; have HO_34 := n1_; have HB := n2_; have HO471 := n3_; clear n0_ n1_ n2_ n3_; clear ho hb hg hat))
            repeat (go_quiet (first | ((with_reducible refine gate_builtin (b := .append) (xs := #[.tmp 52, .tmp 54]) rfl ?_); at_builtin; refine Kd.R_append (Kd.int .i64) (w0 := w) w.heap.size rfl (.tmp 52) (.tmp 54) 31 3 (.int .i64 0) 8 rfl Tryz.underlying31 info3 rfl (by decide) (by omega) u9 x9_1 x10_2 [.int .i64 x10_2] (fun k_ => some k_ ≠ (.slice (some ad456) t453.length co15 : Value).ownBlock ∧ some k_ ≠ (.slice Ao21 t460.length co21 : Value).ownBlock) (fun _ => False) rfl rfl ?aP (fun _ hk => hk.elim) ?aF ?aO ?aB ?aS ?aL ?_; (case aP => exact rfl); (case aB => exact kO); (case aF => exact (fun k_ hk => ⟨Kd.fresh' (Kd.R_lt (kW HO_8)) k_ hk, Kd.fresh' (Kd.R_lt (kW HO_34)) k_ hk⟩)); (case aO => exact (kW HO_9)); (case aS => exact (below_size kO)); (case aL => have := LMc32.out; omega); intro v470 w33 ho hb hg hat; rw [← Ny469.out] at ho; have n0_ := Aside0.mk (Kd.R_after (ok := (fun k_ => some k_ ≠ (.slice Ao21 t460.length co21 : Value).ownBlock)) (by (with_reducible repeat (first | apply Kd.R_alloc | apply Kd.R_drewN | apply Kd.R_drew)); exact Kd.R_mono HO_8.out (fun _ hk => ⟨hk.2, hk.1⟩)) hg hat); have n1_ := Aside0.mk (Kd.R_after (ok := (fun k_ => some k_ ≠ (.slice (some ad456) t453.length co15 : Value).ownBlock)) (kW HO_34) hg hat); have n2_ := Aside0.mk (hb); have n3_ := Aside0.mk (ho); clear HO_8; clear HO_34; clear HB; clear HO_9; have HO_8 := n0_; have HO_34 := n1_; have HB := n2_; have HO471 := n3_; clear n0_ n1_ n2_ n3_; clear ho hb hg hat)); try go_wp2_with (first | ((with_reducible refine gate_builtin (b := .append) (xs := #[.tmp 52, .tmp 54]) rfl ?_); at_builtin; refine Kd.R_append (Kd.int .i64) (w0 := w) w.heap.size rfl (.tmp 52) (.tmp 54) 31 3 (.int .i64 0) 8 rfl Tryz.underlying31 info3 rfl (by decide) (by omega) u9 x9_1 x10_2 [.int .i64 x10_2] (fun k_ => some k_ ≠ (.slice (some ad456) t453.length co15 : Value).ownBlock ∧ some k_ ≠ (.slice Ao21 t460.length co21 : Value).ownBlock) (fun _ => False) rfl rfl ?aP (fun _ hk => hk.elim) ?aF ?aO ?aB ?aS ?aL ?_; (case aP => exact rfl); (case aB => exact kO); (case aF => exact (fun k_ hk => ⟨Kd.fresh' (Kd.R_lt (kW HO_8)) k_ hk, Kd.fresh' (Kd.R_lt (kW HO_34)) k_ hk⟩)); (case aO => exact (kW HO_9)); (case aS => exact (below_size kO)); (case aL => have := LMc32.out; omega); intro v470 w33 ho hb hg hat; rw [← Ny469.out] at ho; have n0_ := Aside0.mk (Kd.R_after (ok := (fun k_ => some k_ ≠ (.slice Ao21 t460.length co21 : Value).ownBlock)) (by (with_reducible repeat (first | apply Kd.R_alloc | apply Kd.R_drewN | apply Kd.R_drew)); exact Kd.R_mono HO_8.out (fun _ hk => ⟨hk.2, hk.1⟩)) hg hat); have n1_ := Aside0.mk (Kd.R_after (ok := (fun k_ => some k_ ≠ (.slice (some ad456) t453.length co15 : Value).ownBlock)) (kW HO_34) hg hat); have n2_ := Aside0.mk (hb); have n3_ := Aside0.mk (ho); clear HO_8; clear HO_34; clear HB; clear HO_9; have HO_8 := n0_; have HO_34 := n1_; have HB := n2_; have HO471 := n3_; clear n0_ n1_ n2_ n3_; clear ho hb hg hat)))
            go_roundg k2
            case measure => have := HK1.out; have := HK2.out; omega
            case rel => exact ⟨(y469), (x10_2), kY, H', ⟨by have := HK1.out; have := HK2.out; omega⟩, ⟨by (with_reducible repeat (first | apply Kd.R_alloc | apply Kd.R_drewN | apply Kd.R_drew)); exact Kd.R_mono HO_8.out (fun _ hk => hk.2)⟩, ⟨by (with_reducible repeat (first | apply Kd.R_alloc | apply Kd.R_drewN | apply Kd.R_drew)); exact Kd.R_mono HO471.out (fun _ hk => hk.1)⟩, kI⟩
           ·rw [if_neg c32] at H
            exact absurd H (by simp)
   ·rw [if_neg c8] at H
    exact absurd H (by simp)
  ·rw [if_neg c7] at H
   exact absurd H (by simp)
 ·replace c5 := Bool.eq_false_iff.mpr c5
  subst c5
  rw [if_neg (show ¬ (false = true) by decide)] at H
  simp only [Option.some.injEq, Prod.mk.injEq] at H
  obtain ⟨rfl, rfl⟩ := H
  go_enter Tryz.func17, Tryz.ntmps17
  go_wp2_with (first | (go_at_call 40; (with_reducible refine (spec_faTwo.calls k _ _ l0 a1 a2 false _ ?side1 ?side2 A4.out).mono ?_); (case side1 => exact kD HR0); (case side2 => exact HC0.out); rintro e w34 ⟨rfl, hb⟩; replace HB := kH HB hb; (try clear hb)))
  repeat (go_quiet (first | (go_at_call 40; (with_reducible refine (spec_faTwo.calls k _ _ l0 a1 a2 false _ ?side1 ?side2 A4.out).mono ?_); (case side1 => exact kD HR0); (case side2 => exact HC0.out); rintro e w34 ⟨rfl, hb⟩; replace HB := kH HB hb; (try clear hb))); try go_wp2_with (first | (go_at_call 40; (with_reducible refine (spec_faTwo.calls k _ _ l0 a1 a2 false _ ?side1 ?side2 A4.out).mono ?_); (case side1 => exact kD HR0); (case side2 => exact HC0.out); rintro e w34 ⟨rfl, hb⟩; replace HB := kH HB hb; (try clear hb))))
  go_ret2
  exact ⟨_, kZ, by first | exact Kd.R_nil _ _ _ _ _ | exact Kd.N_nil _ _ _ _ _ | exact Kd.V_nil _ _ _ _ _ | exact Kd.Q_nil _ _ _ _ _ | exact Kd.S_nil _ _ _ _ _, kO⟩

-- NOT PRINTED: function 55 (impl_StepsApart_1)

end Go.Proofs.YtllihaahppelhaaGreat.P
namespace Go.Proofs.YtllihaahppelhaaGreat.P
open Go.RowKit Go.Proofs.YtllihaahppelhaaGreatW.PrintWords Go.Proofs.YtllihaahppelhaaGreatW.PrintLast Go.Proofs.YtllihaahppelhaaGreatW.PrintMore
attribute [local go_sem] max2_int min2_int max_two min_two max_three min_three max_four min_four   -- for this text's walks alone
set_option linter.unusedVariables false
set_option linter.unusedSimpArgs false

/-! ### impl_StepsApart: function 18, by hand -/
-- IMPORT Derived.Test.YtllihaahppelhaaGreatHlp
-- IMPORT Derived.Shelf.Abstract
-- IMPORT Derived.Deep.RegionHeld3
def impl_StepsApart.ps (l0 : List S41) (i : Int) : List Int := [(rd_T41 l0 i).f1, (rd_T41 l0 i).f2].filter fun x => !decide (x < 0)
def impl_StepsApart.nx (k : Nat) (l0 : List S41) (x : Int) : Option (List Int) :=
  if 0 ≤ x ∧ x < (l0.length : Int) then (impl_children.f k l0 x).bind fun c => if c.length ≤ 1000000 then some (impl_StepsApart.ps l0 x ++ c) else none else none
set_option maxHeartbeats 4000000 in
set_option maxRecDepth 100000 in
theorem impl_StepsApart.clo (k : Nat) (A0 : Option Addr) (c0 : Nat) (l0 : List S41) (x : Int) (r : List Int) (B1 : Nat) (W : World) (h1 : W.cell? ⟨B1, 0, none⟩ = some (.slice A0 l0.length c0)) (hr0 : Kd.C k41 W A0 l0.length l0) (hc0 : l0.length ≤ c0) (h : impl_StepsApart.nx k l0 x = some r) :
    Calls Tryz.prog 55 #[.int .i64 x, .pointer (some ⟨B1, 0, none⟩)] W fun e w' => ∃ v : Value, e = .returned v ∧ Kd.R (Kd.int .i64) 3 w' W.heap.size (fun _ => True) v r ∧ Below W.heap.size W w' := by
  unfold impl_StepsApart.nx at h
  have hi : 0 ≤ x ∧ x < (l0.length : Int) := by
    split at h
    · assumption
    · cases h
  rw [if_pos hi] at h
  obtain ⟨cs, hk, h⟩ := Option.bind_eq_some_iff.1 h
  have hcl : cs.length ≤ 1000000 := by
    split at h
    · assumption
    · cases h
  rw [if_pos hcl] at h
  obtain rfl := Option.some.inj h
  clear h
  obtain ⟨m, rfl⟩ := Int.eq_ofNat_of_zero_le hi.1
  have hm : m < l0.length := by omega
  obtain ⟨ad, rfl, g0, g1, g2⟩ := at_T41 hr0 (m : Int) hi.1 hi.2
  rw [Int.toNat_natCast] at g0 g1 g2
  have hlen := Hlp.C_len hr0
  have hpl : (impl_StepsApart.ps l0 (m : Int)).length ≤ 2 := Nat.le_trans (List.length_filter_le _ _) (by simp)
  have hpar := fun W => impl_Kin_parents.calls (rd_T41 l0 (m : Int)).f0 (rd_T41 l0 (m : Int)).f1 (rd_T41 l0 (m : Int)).f2 (impl_StepsApart.ps l0 (m : Int)) W rfl
  have hchi : ∀ W', Below W.heap.size W W' → Calls Tryz.prog 50 #[.slice (some ad) l0.length c0, .int .i64 (m : Int)] W' fun e w' => ∃ A cc, e = .returned (.slice A cs.length cc) ∧ Aside0 (Kd.R (Kd.int .i64) 3 w' W'.heap.size (fun _ => True) (.slice A cs.length cc) cs ∧ Below W'.heap.size W' w') := fun W' hb => (impl_children.calls k (some ad) c0 l0 (m : Int) cs W' (Kd.C_below hr0 hb) hc0 hk).mono fun e w' he => by
    obtain ⟨v, rfl, hR, hb⟩ := he
    obtain ⟨A, cc, rfl⟩ := Kd.R_slice hR
    exact ⟨A, cc, rfl, ⟨hR, hb⟩⟩
  generalize impl_StepsApart.ps l0 (m : Int) = ps at hpar hpl ⊢
  have HP : Aside0 _ := ⟨hpar⟩
  have HD : Aside0 _ := ⟨hchi⟩
  generalize (rd_T41 l0 (m : Int)).f0 = x0 at g0 HP
  generalize (rd_T41 l0 (m : Int)).f1 = x1 at g1 HP
  generalize (rd_T41 l0 (m : Int)).f2 = x2 at g2 HP
  have HB := Aside0.mk (below_drew (Below.refl W.heap.size W))
  have hiz : (m : Int) < (l0.length : Int) := hi.2
  clear hpar hchi hr0 hi hk
  go_enter Tryz.func55, Tryz.ntmps55
  go_wp2_with fail
  go_region_held3 (fun w' => w'.cell? ⟨B1, 0, none⟩ = some (.slice (some ad) l0.length c0) ∧ w'.cell? (ad.add (m * 3)) = some (.int .i64 x0) ∧ w'.cell? ⟨(ad.add (m * 3)).block, (ad.add (m * 3)).off + 1, none⟩ = some (.int .i64 x1) ∧ w'.cell? ⟨(ad.add (m * 3)).block, (ad.add (m * 3)).off + 2, none⟩ = some (.int .i64 x2))
    (first | go_keep | exact ⟨pw_cell_below hb3 h1, pw_cell_below hb3 g0, pw_cell_below hb3 g1, pw_cell_below hb3 g2⟩ | (have hb9 := below_step (below_step HB.out hb1) hb2.out.2; exact ⟨pw_cell_below hb9 h1, pw_cell_below hb9 g0, pw_cell_below hb9 g1, pw_cell_below hb9 g2⟩) | (have hb9 := below_step HB.out hb1; exact ⟨pw_cell_below hb9 h1, pw_cell_below hb9 g0, pw_cell_below hb9 g1, pw_cell_below hb9 g2⟩))
    (first | (go_at_call 49; refine (HP.out _).mono ?_; rintro e w1 ⟨v1, rfl, hR1, hb1⟩) | (go_at_call 50; refine (HD.out _ (below_step HB.out hb1)).mono ?_; rintro e w2 ⟨A2, cc2, rfl, hb2⟩) | (refine Kd.R_append_rows_step (Kd.int .i64) (w0 := W) W.heap.size (by rfl) (.tmp 8) (.tmp 11) 31 3 (.int .i64 0) 8 (by rfl) Tryz.underlying31 info3 (by rfl) (by decide) (by omega) v1 ps cs A2 cs.length cc2 (fun _ => True) (fun _ => False) (by rfl) (by rfl) (Kd.R_below (Kd.R_lower hR1 (Nat.le_refl _)) hb2.out.2) (Kd.R_reads' hb2.out.1).2.2 (fun _ _ h => h) (fun _ hk => hk.elim) (fun _ _ => trivial) (below_step (below_step HB.out hb1) hb2.out.2) (below_step (below_step HB.out hb1) hb2.out.2).size (by omega) ?_; intro v3 w3 ho hb3 hg3 hat3))
  go_wp2
  go_ret
  exact ⟨_, rfl, ho, hb3⟩
def impl_StepsApart.f (k : Nat) (l0 : List S41) (a1 a2 : Int) : Option (Int × Bool) :=
  (impl_hasKin.f k l0 [a1, a2]).bind fun t => if t = true then (impl_steps.g (impl_StepsApart.nx k l0) k l0.length a1).bind fun far => if 0 ≤ a2 ∧ a2 < (far.length : Int) then (if rd far a2 < 0 then some (0, false) else some (rd far a2, true)) else none else some (0, false)
set_option maxHeartbeats 8000000 in
set_option maxRecDepth 100000 in
theorem impl_StepsApart.calls (k : Nat) (A0 : Option Addr) (c0 : Nat) (l0 : List S41) (a1 a2 : Int) (r1 : Int) (r2 : Bool) (w : World) (hr0 : Kd.C k41 w A0 l0.length l0) (hc0 : l0.length ≤ c0) (h : impl_StepsApart.f k l0 a1 a2 = some (r1, r2)) :
    Calls Tryz.prog 18 #[.slice A0 l0.length c0, .int .i64 a1, .int .i64 a2] w fun e w' => e = .returned (.tuple #[.int .i64 r1, .bool r2]) ∧ Below w.heap.size w w' := by
  unfold impl_StepsApart.f at h
  obtain ⟨t, ht, h⟩ := Option.bind_eq_some_iff.1 h
  obtain ⟨W1, hW1⟩ : ∃ W1, W1 = w.alloc (.cells #[.slice A0 l0.length c0] 24) := ⟨_, rfl⟩
  have hs1 : W1.heap.size = w.heap.size + 1 := by rw [hW1]; simp
  have hb1 : Below w.heap.size w W1 := by rw [hW1]; exact (Below.refl _ w).alloc (Nat.le_refl _) _
  have hbox : W1.cell? ⟨w.heap.size, 0, none⟩ = some (.slice A0 l0.length c0) := by rw [hW1]; simp
  have hb2 : Below W1.heap.size W1 (W1.alloc (.cells #[.int .i64 a1, .int .i64 a2] 3)) := (Below.refl _ W1).alloc (Nat.le_refl _) _
  have hlit := own_lit W1 W1.heap.size 3 .i64 [a1, a2] (Nat.le_refl _) (by simp)
  have hC2 : Kd.C (Kd.int .i64) (W1.alloc (.cells #[.int .i64 a1, .int .i64 a2] 3)) (some ⟨W1.heap.size, 0, none⟩) ([a1, a2] : List Int).length [a1, a2] := Kd.C_of_reads (d := (0 : Int)) (h1 := fun _ => rfl) (own_reads' hlit)
  have hkin := impl_hasKin.calls k A0 c0 l0 (some ⟨W1.heap.size, 0, none⟩) 2 [a1, a2] t (W1.alloc (.cells #[.int .i64 a1, .int .i64 a2] 3)) (Kd.C_below hr0 (below_step hb1 hb2)) hc0 hC2 (by simp) ht
  have HK : Aside0 (Calls Tryz.prog 31 #[.slice A0 l0.length c0, .slice (some ⟨w.heap.size + 1, 0, none⟩) 2 2] ((w.alloc (.cells #[.slice A0 l0.length c0] 24)).alloc (.cells #[.int .i64 a1, .int .i64 a2] 3)) fun e w' => e = .returned (.bool t) ∧ w'.cell? ⟨w.heap.size, 0, none⟩ = some (.slice A0 l0.length c0) ∧ Aside0 (Below W1.heap.size W1 w')) := ⟨by
    rw [← hW1, ← hs1]
    exact hkin.mono fun e w' he => ⟨he.1, pw_cell_below (below_step hb2 he.2) hbox, ⟨below_step hb2 he.2⟩⟩⟩
  clear hkin hC2 hlit hb2 ht
  cases t with
  | false =>
    rw [if_neg (by simp)] at h
    obtain ⟨rfl, rfl⟩ := Prod.mk.inj (Option.some.inj h)
    clear h hr0 hc0
    have HB1 := Aside0.mk hb1
    clear hb1 hbox hs1 hW1
    go_enter Tryz.func18, Tryz.ntmps18
    go_wp2_with (go_at_call 31; refine HK.out.mono ?_; rintro e w' ⟨rfl, hc, hb⟩)
    go_ret2
    exact ⟨rfl, below_step HB1.out hb.out⟩
  | true =>
    rw [if_pos rfl] at h
    obtain ⟨far, hfar, h⟩ := Option.bind_eq_some_iff.1 h
    have hi : 0 ≤ a2 ∧ a2 < (far.length : Int) := by
      split at h
      · assumption
      · cases h
    rw [if_pos hi] at h
    obtain ⟨b, rfl⟩ := Int.eq_ofNat_of_zero_le hi.1
    have hbl : b < far.length := by omega
    have hblz : (b : Int) < (far.length : Int) := hi.2
    have eg : ∀ args w, (callFunc 55 args).run Tryz.prog w = .ok (.enter 55 args) w := enters_of Tryz.func55 (by kernel_rfl) rfl
    have HST : Aside0 (∀ W, Below W1.heap.size W1 W → Calls Tryz.prog 47 #[.slice A0 l0.length c0, .int .i64 a1, .func (.func 55) #[] #[.pointer (some ⟨w.heap.size, 0, none⟩)]] W fun e w' => ∃ ad cc, e = .returned (.slice (some ad) far.length cc) ∧ w'.cell? (ad.add b) = some (.int .i64 (rd far (b : Int))) ∧ Aside0 (Below w.heap.size w w')) := ⟨fun W hW =>
      (impl_steps.any (impl_StepsApart.nx k l0) k 55 #[.pointer (some ⟨w.heap.size, 0, none⟩)] eg A0 l0.length c0 a1 far W (fun x ks hx W' hW' => impl_StepsApart.clo k A0 c0 l0 x ks w.heap.size W' (pw_cell_below (below_step hW hW') hbox) (Kd.C_below hr0 (below_step hb1 (below_step hW hW'))) hc0 hx) hfar).mono fun e w' he => by
        obtain ⟨v, rfl, hR, hb⟩ := he
        obtain ⟨A, cc, rfl, _, hC⟩ := Kd.R_reads hR
        obtain ⟨ad, rfl, hcell⟩ := Hlp.int_at hC b hbl
        refine ⟨ad, cc, rfl, ?_, ⟨below_step hb1 (below_step hW hb)⟩⟩
        rw [hcell]
        simp [rd, List.getD_eq_getElem?_getD, List.getElem?_eq_getElem hbl]⟩
    generalize rd far (b : Int) = d at h HST
    clear hfar hr0 hc0 hb1 hbox hs1 hi eg hW1
    by_cases hd : d < 0
    · rw [if_pos hd] at h
      obtain ⟨rfl, rfl⟩ := Prod.mk.inj (Option.some.inj h)
      clear h
      go_enter Tryz.func18, Tryz.ntmps18
      go_wp2_with (first | (go_at_call 31; refine HK.out.mono ?_; rintro e w' ⟨rfl, hc, hb⟩) | (go_at_call 47; refine (HST.out _ hb.out).mono ?_; rintro e w2 ⟨ad, cc, rfl, hcd, hb3⟩))
      go_ret2
      exact ⟨rfl, hb3.out⟩
    · rw [if_neg hd] at h
      obtain ⟨rfl, rfl⟩ := Prod.mk.inj (Option.some.inj h)
      clear h
      go_enter Tryz.func18, Tryz.ntmps18
      go_wp2_with (first | (go_at_call 31; refine HK.out.mono ?_; rintro e w' ⟨rfl, hc, hb⟩) | (go_at_call 47; refine (HST.out _ hb.out).mono ?_; rintro e w2 ⟨ad, cc, rfl, hcd, hb3⟩))
      go_ret2
      exact ⟨rfl, hb3.out⟩

end Go.Proofs.YtllihaahppelhaaGreat.P
