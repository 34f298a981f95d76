/- Calls of the functions of the given program return what the plain Lean functions of the same names return; and a row of a law out of its pure statement. Written by a program of this session out of the translation; Lean checks it. No condition. -/
import Derived.Test.YtllihaahppelhaaGreatPx0
import Derived.Test.YtllihaahppelhaaGreatCt
import Derived.Test.YtllihaahppelhaaGreatF1
import Derived.Test.YtllihaahppelhaaGreatF2
import Derived.Test.YtllihaahppelhaaGreatHlp
import Derived.Test.YtllihaahppelhaaGreatShl
import Derived.Laws.CopyOwn
import Derived.Deep.RegionLaw
import Derived.IntWalk
import Derived.Shelf.Abstract
import Derived.Test.YtllihaahppelhaaGreatF0
import Derived.BigQuiet
namespace Go.Proofs.YtllihaahppelhaaGreat.P
open Go.RowKit Go.Proofs.YtllihaahppelhaaGreatW.PrintWords Go.Proofs.YtllihaahppelhaaGreatW.PrintLast Go.Proofs.YtllihaahppelhaaGreatW.PrintMore
attribute [local go_sem] max2_int min2_int max_two min_two max_three min_three max_four min_four   -- for this text's walks alone
set_option linter.unusedVariables false
set_option linter.unusedSimpArgs false

/-! ### spec_faRelation: function 41 -/
def spec_faRelation.f (k : Nat) (l0 : List (S41)) (a1 : Int) (a2 : Int) : Option (ByteArray) := if a1 = a2 then (some (⟨#[115, 101, 108, 102]⟩ : ByteArray)) else ((spec_faParents.f k l0 a2).bind fun t360 => ((spec_l1Has.f k t360 a1).bind fun t363 => (if t363 = true then (some (⟨#[112, 97, 114, 101, 110, 116]⟩ : ByteArray)) else ((spec_faParents.f k l0 a1).bind fun t364 => ((spec_l1Has.f k t364 a2).bind fun t367 => (if t367 = true then (some (⟨#[99, 104, 105, 108, 100]⟩ : ByteArray)) else ((spec_faSiblings.f k l0 a1 a2).bind fun t368 => (if t368 = true then (some (⟨#[115, 105, 98, 108, 105, 110, 103]⟩ : ByteArray)) else ((spec_faGrand.f k l0 a1 a2).bind fun t369 => (if t369 = true then (some (⟨#[103, 114, 97, 110, 100, 112, 97, 114, 101, 110, 116]⟩ : ByteArray)) else ((spec_faGrand.f k l0 a2 a1).bind fun t370 => (if t370 = true then (some (⟨#[103, 114, 97, 110, 100, 99, 104, 105, 108, 100]⟩ : ByteArray)) else ((spec_faAunt.f k l0 a1 a2).bind fun t371 => (if t371 = true then (some (⟨#[97, 117, 110, 116]⟩ : ByteArray)) else ((spec_faAunt.f k l0 a2 a1).bind fun t372 => (if t372 = true then (some (⟨#[110, 105, 101, 99, 101]⟩ : ByteArray)) else ((spec_faCousins.f k l0 a1 a2).bind fun t373 => (if t373 = true then (some (⟨#[99, 111, 117, 115, 105, 110]⟩ : ByteArray)) else ((spec_faAbove.f k l0 a2).bind fun t374 => (if 0 ≤ a1 then (if a1 < (t374.length : Int) then (if rdOf false t374 a1 = true then (some (⟨#[97, 110, 99, 101, 115, 116, 111, 114]⟩ : ByteArray)) else ((spec_faAbove.f k l0 a1).bind fun t378 => (if 0 ≤ a2 then (if a2 < (t378.length : Int) then (if rdOf false t378 a2 = true then (some (⟨#[100, 101, 115, 99, 101, 110, 100, 97, 110, 116]⟩ : ByteArray)) else ((spec_faCommon.f k l0 a1 a2).bind fun t382 => (if (t382.length : Int) > 0 then (some (⟨#[107, 105, 110]⟩ : ByteArray)) else (some (⟨#[110, 111, 110, 101]⟩ : ByteArray))))) else (none)) else (none)))) else (none)) else (none)))))))))))))))))))))
set_option maxHeartbeats 8000000 in
set_option maxRecDepth 100000 in
theorem spec_faRelation.calls (k : Nat) (A0 : Option Addr) (c0 : Nat) (l0 : List (S41)) (a1 : Int) (a2 : Int) (r : ByteArray) (w : World) (hr0 : Kd.C k41 w A0 l0.length l0) (hc0 : l0.length ≤ c0) (h : spec_faRelation.f k l0 a1 a2 = some r) :
  Calls Tryz.prog 41 #[.slice A0 l0.length c0, .int .i64 a1, .int .i64 a2] w fun e w' => e = .returned (.string r) ∧ Below w.heap.size w w' := by
 have HR0 := Aside0.mk hr0
 have HC0 := Aside0.mk hc0
 clear hr0 hc0
 have HB := Aside0.mk (Below.refl w.heap.size w)
 have H : (if a1 = a2 then (some (⟨#[115, 101, 108, 102]⟩ : ByteArray)) else ((spec_faParents.f k l0 a2).bind fun t360 => ((spec_l1Has.f k t360 a1).bind fun t363 => (if t363 = true then (some (⟨#[112, 97, 114, 101, 110, 116]⟩ : ByteArray)) else ((spec_faParents.f k l0 a1).bind fun t364 => ((spec_l1Has.f k t364 a2).bind fun t367 => (if t367 = true then (some (⟨#[99, 104, 105, 108, 100]⟩ : ByteArray)) else ((spec_faSiblings.f k l0 a1 a2).bind fun t368 => (if t368 = true then (some (⟨#[115, 105, 98, 108, 105, 110, 103]⟩ : ByteArray)) else ((spec_faGrand.f k l0 a1 a2).bind fun t369 => (if t369 = true then (some (⟨#[103, 114, 97, 110, 100, 112, 97, 114, 101, 110, 116]⟩ : ByteArray)) else ((spec_faGrand.f k l0 a2 a1).bind fun t370 => (if t370 = true then (some (⟨#[103, 114, 97, 110, 100, 99, 104, 105, 108, 100]⟩ : ByteArray)) else ((spec_faAunt.f k l0 a1 a2).bind fun t371 => (if t371 = true then (some (⟨#[97, 117, 110, 116]⟩ : ByteArray)) else ((spec_faAunt.f k l0 a2 a1).bind fun t372 => (if t372 = true then (some (⟨#[110, 105, 101, 99, 101]⟩ : ByteArray)) else ((spec_faCousins.f k l0 a1 a2).bind fun t373 => (if t373 = true then (some (⟨#[99, 111, 117, 115, 105, 110]⟩ : ByteArray)) else ((spec_faAbove.f k l0 a2).bind fun t374 => (if 0 ≤ a1 then (if a1 < (t374.length : Int) then (if rdOf false t374 a1 = true then (some (⟨#[97, 110, 99, 101, 115, 116, 111, 114]⟩ : ByteArray)) else ((spec_faAbove.f k l0 a1).bind fun t378 => (if 0 ≤ a2 then (if a2 < (t378.length : Int) then (if rdOf false t378 a2 = true then (some (⟨#[100, 101, 115, 99, 101, 110, 100, 97, 110, 116]⟩ : ByteArray)) else ((spec_faCommon.f k l0 a1 a2).bind fun t382 => (if (t382.length : Int) > 0 then (some (⟨#[107, 105, 110]⟩ : ByteArray)) else (some (⟨#[110, 111, 110, 101]⟩ : ByteArray))))) else (none)) else (none)))) else (none)) else (none)))))))))))))))))))))) = some r := h
 clear h
 by_cases c4 : a1 = a2
 ·rw [if_pos c4] at H
  have c4b0 : (a1 == a2) = true := beq_iff_eq.mpr c4
  have c4b1 : (a1 != a2) = false := bne_eq_false_iff_eq.mpr c4
  clear c4
  obtain rfl := Option.some.inj H
  go_enter Tryz.func41, Tryz.ntmps41
  go_wp2
  go_ret
  exact ⟨kZ, kO⟩
 ·rw [if_neg c4] at H
  have c4b0 : (a1 == a2) = false := beq_eq_false_iff_ne.mpr c4
  have c4b1 : (a1 != a2) = true := bne_iff_ne.mpr c4
  replace H := Option.bind_eq_some_iff.mp H
  obtain ⟨t360, A50, H⟩ := H
  have A5 := Aside0.mk A50
  clear A50
  replace H := Option.bind_eq_some_iff.mp H
  obtain ⟨t363, A60, H⟩ := H
  have A6 := Aside0.mk A60
  clear A60
  by_cases c7 : t363 = true
  ·subst c7
   rw [if_pos rfl] at H
   obtain rfl := Option.some.inj H
   go_enter Tryz.func41, Tryz.ntmps41
   go_wp2_with (first | ((with_reducible refine gate_callee (f := 57) rfl ?_); refine kE (some 14) Tryz.func57 #[.slice A0 l0.length c0, .int .i64 a2] rfl ?_; (with_reducible refine (spec_faParents.calls k _ _ l0 a2 t360 _ ?side1 ?side2 A5.out).mono ?_); (case side1 => exact kD HR0); (case side2 => exact HC0.out); rintro e w8 ⟨v361, rfl, ho0, hb⟩; refine ⟨_, rfl, ?_⟩; have n0_ := Aside0.mk (Kd.R_lower ho0 (below_size kO)); have n1_ := kH HB hb; clear HB; have HO362 := n0_; have HB := n1_; clear n0_ n1_; (try clear hb); (try clear ho0); obtain ⟨Ao9, co9, eo9⟩ := Kd.R_slice HO362.out; subst eo9) | ((with_reducible refine gate_callee (f := 56) rfl ?_); refine kE (some 16) Tryz.func56 #[.slice Ao9 t360.length co9, .int .i64 a1] rfl ?_; (with_reducible refine (spec_l1Has.calls k _ _ t360 a1 true _ ?side1 ?side2 A6.out).mono ?_); (case side1 => exact kDo HO362); (case side2 => exact (Kd.R_reads' HO362.out).2.1); rintro e w' ⟨rfl, ⟨nd, rfl⟩⟩; refine ⟨_, rfl, ?_⟩))
   go_ret
   exact ⟨kZ, kO⟩
  ·replace c7 := Bool.eq_false_iff.mpr c7
   subst c7
   rw [if_neg (show ¬ (false = true) by decide)] at H
   replace H := Option.bind_eq_some_iff.mp H
   obtain ⟨t364, A100, H⟩ := H
   have A10 := Aside0.mk A100
   clear A100
   replace H := Option.bind_eq_some_iff.mp H
   obtain ⟨t367, A110, H⟩ := H
   have A11 := Aside0.mk A110
   clear A110
   by_cases c12 : t367 = true
   ·subst c12
    rw [if_pos rfl] at H
    obtain rfl := Option.some.inj H
    go_enter Tryz.func41, Tryz.ntmps41
    go_wp2_with (first | ((with_reducible refine gate_callee (f := 57) rfl ?_); refine kE (some 14) Tryz.func57 #[.slice A0 l0.length c0, .int .i64 a2] rfl ?_; (with_reducible refine (spec_faParents.calls k _ _ l0 a2 t360 _ ?side1 ?side2 A5.out).mono ?_); (case side1 => exact kD HR0); (case side2 => exact HC0.out); rintro e w13 ⟨v361, rfl, ho0, hb⟩; refine ⟨_, rfl, ?_⟩; have n0_ := Aside0.mk (Kd.R_lower ho0 (below_size kO)); have n1_ := kH HB hb; clear HB; have HO362 := n0_; have HB := n1_; clear n0_ n1_; (try clear hb); (try clear ho0); obtain ⟨Ao14, co14, eo14⟩ := Kd.R_slice HO362.out; subst eo14) | ((with_reducible refine gate_callee (f := 56) rfl ?_); refine kE (some 16) Tryz.func56 #[.slice Ao14 t360.length co14, .int .i64 a1] rfl ?_; (with_reducible refine (spec_l1Has.calls k _ _ t360 a1 false _ ?side1 ?side2 A6.out).mono ?_); (case side1 => exact kDo HO362); (case side2 => exact (Kd.R_reads' HO362.out).2.1); rintro e w' ⟨rfl, ⟨nd, rfl⟩⟩; refine ⟨_, rfl, ?_⟩) | ((with_reducible refine gate_callee (f := 57) rfl ?_); refine kE (some 20) Tryz.func57 #[.slice A0 l0.length c0, .int .i64 a1] rfl ?_; (with_reducible refine (spec_faParents.calls k _ _ l0 a1 t364 _ ?side1 ?side2 A10.out).mono ?_); (case side1 => exact kDb HR0); (case side2 => exact HC0.out); rintro e w15 ⟨v365, rfl, ho0, hb⟩; refine ⟨_, rfl, ?_⟩; have n0_ := Aside0.mk (Kd.R_elder' (kW HO362) (Kd.R_base ho0) hb); have n1_ := Aside0.mk (Kd.R_lower (Kd.R_new' ho0 (Kd.R_lt (kW HO362))) (below_size kO)); have n2_ := kH HB hb; clear HO362; clear HB; have HO362 := n0_; have HO366 := n1_; have HB := n2_; clear n0_ n1_ n2_; (try clear hb); (try clear ho0); obtain ⟨Ao16, co16, eo16⟩ := Kd.R_slice HO366.out; subst eo16) | ((with_reducible refine gate_callee (f := 56) rfl ?_); refine kE (some 22) Tryz.func56 #[.slice Ao16 t364.length co16, .int .i64 a2] rfl ?_; (with_reducible refine (spec_l1Has.calls k _ _ t364 a2 true _ ?side1 ?side2 A11.out).mono ?_); (case side1 => exact kDo HO366); (case side2 => exact (Kd.R_reads' HO366.out).2.1); rintro e w' ⟨rfl, ⟨nd, rfl⟩⟩; refine ⟨_, rfl, ?_⟩))
    go_ret
    exact ⟨kZ, kO⟩
   ·replace c12 := Bool.eq_false_iff.mpr c12
    subst c12
    rw [if_neg (show ¬ (false = true) by decide)] at H
    replace H := Option.bind_eq_some_iff.mp H
    obtain ⟨t368, A170, H⟩ := H
    have A17 := Aside0.mk A170
    clear A170
    by_cases c18 : t368 = true
    ·subst c18
     rw [if_pos rfl] at H
     obtain rfl := Option.some.inj H
     go_enter Tryz.func41, Tryz.ntmps41
     go_wp2_with (first | ((with_reducible refine gate_callee (f := 57) rfl ?_); refine kE (some 14) Tryz.func57 #[.slice A0 l0.length c0, .int .i64 a2] rfl ?_; (with_reducible refine (spec_faParents.calls k _ _ l0 a2 t360 _ ?side1 ?side2 A5.out).mono ?_); (case side1 => exact kD HR0); (case side2 => exact HC0.out); rintro e w19 ⟨v361, rfl, ho0, hb⟩; refine ⟨_, rfl, ?_⟩; have n0_ := Aside0.mk (Kd.R_lower ho0 (below_size kO)); have n1_ := kH HB hb; clear HB; have HO362 := n0_; have HB := n1_; clear n0_ n1_; (try clear hb); (try clear ho0); obtain ⟨Ao20, co20, eo20⟩ := Kd.R_slice HO362.out; subst eo20) | ((with_reducible refine gate_callee (f := 56) rfl ?_); refine kE (some 16) Tryz.func56 #[.slice Ao20 t360.length co20, .int .i64 a1] rfl ?_; (with_reducible refine (spec_l1Has.calls k _ _ t360 a1 false _ ?side1 ?side2 A6.out).mono ?_); (case side1 => exact kDo HO362); (case side2 => exact (Kd.R_reads' HO362.out).2.1); rintro e w' ⟨rfl, ⟨nd, rfl⟩⟩; refine ⟨_, rfl, ?_⟩) | ((with_reducible refine gate_callee (f := 57) rfl ?_); refine kE (some 20) Tryz.func57 #[.slice A0 l0.length c0, .int .i64 a1] rfl ?_; (with_reducible refine (spec_faParents.calls k _ _ l0 a1 t364 _ ?side1 ?side2 A10.out).mono ?_); (case side1 => exact kDb HR0); (case side2 => exact HC0.out); rintro e w21 ⟨v365, rfl, ho0, hb⟩; refine ⟨_, rfl, ?_⟩; have n0_ := Aside0.mk (Kd.R_elder' (kW HO362) (Kd.R_base ho0) hb); have n1_ := Aside0.mk (Kd.R_lower (Kd.R_new' ho0 (Kd.R_lt (kW HO362))) (below_size kO)); have n2_ := kH HB hb; clear HO362; clear HB; have HO362 := n0_; have HO366 := n1_; have HB := n2_; clear n0_ n1_ n2_; (try clear hb); (try clear ho0); obtain ⟨Ao22, co22, eo22⟩ := Kd.R_slice HO366.out; subst eo22) | ((with_reducible refine gate_callee (f := 56) rfl ?_); refine kE (some 22) Tryz.func56 #[.slice Ao22 t364.length co22, .int .i64 a2] rfl ?_; (with_reducible refine (spec_l1Has.calls k _ _ t364 a2 false _ ?side1 ?side2 A11.out).mono ?_); (case side1 => exact kDo HO366); (case side2 => exact (Kd.R_reads' HO366.out).2.1); rintro e w' ⟨rfl, ⟨nd, rfl⟩⟩; refine ⟨_, rfl, ?_⟩) | ((with_reducible refine gate_callee (f := 42) rfl ?_); refine kE (some 27) Tryz.func42 #[.slice A0 l0.length c0, .int .i64 a1, .int .i64 a2] rfl ?_; (with_reducible refine (spec_faSiblings.calls k _ _ l0 a1 a2 true _ ?side1 ?side2 A17.out).mono ?_); (case side1 => exact kDb HR0); (case side2 => exact HC0.out); rintro e w23 ⟨rfl, hb⟩; refine ⟨_, rfl, ?_⟩; have n0_ := Aside0.mk (Kd.R_below (kW HO362) hb); have n1_ := Aside0.mk (Kd.R_below (kW HO366) hb); have n2_ := kH HB hb; clear HO362; clear HO366; clear HB; have HO362 := n0_; have HO366 := n1_; have HB := n2_; clear n0_ n1_ n2_; (try clear hb)))
     go_ret
     exact ⟨kZ, kO⟩
    ·replace c18 := Bool.eq_false_iff.mpr c18
     subst c18
     rw [if_neg (show ¬ (false = true) by decide)] at H
     replace H := Option.bind_eq_some_iff.mp H
     obtain ⟨t369, A240, H⟩ := H
     have A24 := Aside0.mk A240
     clear A240
     by_cases c25 : t369 = true
     ·subst c25
      rw [if_pos rfl] at H
      obtain rfl := Option.some.inj H
      go_enter Tryz.func41, Tryz.ntmps41
      go_wp2_with (first | ((with_reducible refine gate_callee (f := 57) rfl ?_); refine kE (some 14) Tryz.func57 #[.slice A0 l0.length c0, .int .i64 a2] rfl ?_; (with_reducible refine (spec_faParents.calls k _ _ l0 a2 t360 _ ?side1 ?side2 A5.out).mono ?_); (case side1 => exact kD HR0); (case side2 => exact HC0.out); rintro e w26 ⟨v361, rfl, ho0, hb⟩; refine ⟨_, rfl, ?_⟩; have n0_ := Aside0.mk (Kd.R_lower ho0 (below_size kO)); have n1_ := kH HB hb; clear HB; have HO362 := n0_; have HB := n1_; clear n0_ n1_; (try clear hb); (try clear ho0); obtain ⟨Ao27, co27, eo27⟩ := Kd.R_slice HO362.out; subst eo27) | ((with_reducible refine gate_callee (f := 56) rfl ?_); refine kE (some 16) Tryz.func56 #[.slice Ao27 t360.length co27, .int .i64 a1] rfl ?_; (with_reducible refine (spec_l1Has.calls k _ _ t360 a1 false _ ?side1 ?side2 A6.out).mono ?_); (case side1 => exact kDo HO362); (case side2 => exact (Kd.R_reads' HO362.out).2.1); rintro e w' ⟨rfl, ⟨nd, rfl⟩⟩; refine ⟨_, rfl, ?_⟩) | ((with_reducible refine gate_callee (f := 57) rfl ?_); refine kE (some 20) Tryz.func57 #[.slice A0 l0.length c0, .int .i64 a1] rfl ?_; (with_reducible refine (spec_faParents.calls k _ _ l0 a1 t364 _ ?side1 ?side2 A10.out).mono ?_); (case side1 => exact kDb HR0); (case side2 => exact HC0.out); rintro e w28 ⟨v365, rfl, ho0, hb⟩; refine ⟨_, rfl, ?_⟩; have n0_ := Aside0.mk (Kd.R_elder' (kW HO362) (Kd.R_base ho0) hb); have n1_ := Aside0.mk (Kd.R_lower (Kd.R_new' ho0 (Kd.R_lt (kW HO362))) (below_size kO)); have n2_ := kH HB hb; clear HO362; clear HB; have HO362 := n0_; have HO366 := n1_; have HB := n2_; clear n0_ n1_ n2_; (try clear hb); (try clear ho0); obtain ⟨Ao29, co29, eo29⟩ := Kd.R_slice HO366.out; subst eo29) | ((with_reducible refine gate_callee (f := 56) rfl ?_); refine kE (some 22) Tryz.func56 #[.slice Ao29 t364.length co29, .int .i64 a2] rfl ?_; (with_reducible refine (spec_l1Has.calls k _ _ t364 a2 false _ ?side1 ?side2 A11.out).mono ?_); (case side1 => exact kDo HO366); (case side2 => exact (Kd.R_reads' HO366.out).2.1); rintro e w' ⟨rfl, ⟨nd, rfl⟩⟩; refine ⟨_, rfl, ?_⟩) | ((with_reducible refine gate_callee (f := 42) rfl ?_); refine kE (some 27) Tryz.func42 #[.slice A0 l0.length c0, .int .i64 a1, .int .i64 a2] rfl ?_; (with_reducible refine (spec_faSiblings.calls k _ _ l0 a1 a2 false _ ?side1 ?side2 A17.out).mono ?_); (case side1 => exact kDb HR0); (case side2 => exact HC0.out); rintro e w30 ⟨rfl, hb⟩; refine ⟨_, rfl, ?_⟩; have n0_ := Aside0.mk (Kd.R_below (kW HO362) hb); have n1_ := Aside0.mk (Kd.R_below (kW HO366) hb); have n2_ := kH HB hb; clear HO362; clear HO366; clear HB; have HO362 := n0_; have HO366 := n1_; have HB := n2_; clear n0_ n1_ n2_; (try clear hb)) | ((with_reducible refine gate_callee (f := 72) rfl ?_); refine kE (some 32) Tryz.func72 #[.slice A0 l0.length c0, .int .i64 a1, .int .i64 a2] rfl ?_; (with_reducible refine (spec_faGrand.calls k _ _ l0 a1 a2 true _ ?side1 ?side2 A24.out).mono ?_); (case side1 => exact kDb HR0); (case side2 => exact HC0.out); rintro e w31 ⟨rfl, hb⟩; refine ⟨_, rfl, ?_⟩; have n0_ := Aside0.mk (Kd.R_below (kW HO362) hb); have n1_ := Aside0.mk (Kd.R_below (kW HO366) hb); have n2_ := kH HB hb; clear HO362; clear HO366; clear HB; have HO362 := n0_; have HO366 := n1_; have HB := n2_; clear n0_ n1_ n2_; (try clear hb)))
      go_ret
      exact ⟨kZ, kO⟩
     ·replace c25 := Bool.eq_false_iff.mpr c25
      subst c25
      rw [if_neg (show ¬ (false = true) by decide)] at H
      replace H := Option.bind_eq_some_iff.mp H
      obtain ⟨t370, A320, H⟩ := H
      have A32 := Aside0.mk A320
      clear A320
      by_cases c33 : t370 = true
      ·subst c33
       rw [if_pos rfl] at H
       obtain rfl := Option.some.inj H
       go_enter Tryz.func41, Tryz.ntmps41
       go_wp2_with (first | ((with_reducible refine gate_callee (f := 57) rfl ?_); refine kE (some 14) Tryz.func57 #[.slice A0 l0.length c0, .int .i64 a2] rfl ?_; (with_reducible refine (spec_faParents.calls k _ _ l0 a2 t360 _ ?side1 ?side2 A5.out).mono ?_); (case side1 => exact kD HR0); (case side2 => exact HC0.out); rintro e w34 ⟨v361, rfl, ho0, hb⟩; refine ⟨_, rfl, ?_⟩; have n0_ := Aside0.mk (Kd.R_lower ho0 (below_size kO)); have n1_ := kH HB hb; clear HB; have HO362 := n0_; have HB := n1_; clear n0_ n1_; (try clear hb); (try clear ho0); obtain ⟨Ao35, co35, eo35⟩ := Kd.R_slice HO362.out; subst eo35) | ((with_reducible refine gate_callee (f := 56) rfl ?_); refine kE (some 16) Tryz.func56 #[.slice Ao35 t360.length co35, .int .i64 a1] rfl ?_; (with_reducible refine (spec_l1Has.calls k _ _ t360 a1 false _ ?side1 ?side2 A6.out).mono ?_); (case side1 => exact kDo HO362); (case side2 => exact (Kd.R_reads' HO362.out).2.1); rintro e w' ⟨rfl, ⟨nd, rfl⟩⟩; refine ⟨_, rfl, ?_⟩) | ((with_reducible refine gate_callee (f := 57) rfl ?_); refine kE (some 20) Tryz.func57 #[.slice A0 l0.length c0, .int .i64 a1] rfl ?_; (with_reducible refine (spec_faParents.calls k _ _ l0 a1 t364 _ ?side1 ?side2 A10.out).mono ?_); (case side1 => exact kDb HR0); (case side2 => exact HC0.out); rintro e w36 ⟨v365, rfl, ho0, hb⟩; refine ⟨_, rfl, ?_⟩; have n0_ := Aside0.mk (Kd.R_elder' (kW HO362) (Kd.R_base ho0) hb); have n1_ := Aside0.mk (Kd.R_lower (Kd.R_new' ho0 (Kd.R_lt (kW HO362))) (below_size kO)); have n2_ := kH HB hb; clear HO362; clear HB; have HO362 := n0_; have HO366 := n1_; have HB := n2_; clear n0_ n1_ n2_; (try clear hb); (try clear ho0); obtain ⟨Ao37, co37, eo37⟩ := Kd.R_slice HO366.out; subst eo37) | ((with_reducible refine gate_callee (f := 56) rfl ?_); refine kE (some 22) Tryz.func56 #[.slice Ao37 t364.length co37, .int .i64 a2] rfl ?_; (with_reducible refine (spec_l1Has.calls k _ _ t364 a2 false _ ?side1 ?side2 A11.out).mono ?_); (case side1 => exact kDo HO366); (case side2 => exact (Kd.R_reads' HO366.out).2.1); rintro e w' ⟨rfl, ⟨nd, rfl⟩⟩; refine ⟨_, rfl, ?_⟩) | ((with_reducible refine gate_callee (f := 42) rfl ?_); refine kE (some 27) Tryz.func42 #[.slice A0 l0.length c0, .int .i64 a1, .int .i64 a2] rfl ?_; (with_reducible refine (spec_faSiblings.calls k _ _ l0 a1 a2 false _ ?side1 ?side2 A17.out).mono ?_); (case side1 => exact kDb HR0); (case side2 => exact HC0.out); rintro e w38 ⟨rfl, hb⟩; refine ⟨_, rfl, ?_⟩; have n0_ := Aside0.mk (Kd.R_below (kW HO362) hb); have n1_ := Aside0.mk (Kd.R_below (kW HO366) hb); have n2_ := kH HB hb; clear HO362; clear HO366; clear HB; have HO362 := n0_; have HO366 := n1_; have HB := n2_; clear n0_ n1_ n2_; (try clear hb)) | ((with_reducible refine gate_callee (f := 72) rfl ?_); refine kE (some 32) Tryz.func72 #[.slice A0 l0.length c0, .int .i64 a1, .int .i64 a2] rfl ?_; (with_reducible refine (spec_faGrand.calls k _ _ l0 a1 a2 false _ ?side1 ?side2 A24.out).mono ?_); (case side1 => exact kDb HR0); (case side2 => exact HC0.out); rintro e w39 ⟨rfl, hb⟩; refine ⟨_, rfl, ?_⟩; have n0_ := Aside0.mk (Kd.R_below (kW HO362) hb); have n1_ := Aside0.mk (Kd.R_below (kW HO366) hb); have n2_ := kH HB hb; clear HO362; clear HO366; clear HB; have HO362 := n0_; have HO366 := n1_; have HB := n2_; clear n0_ n1_ n2_; (try clear hb)) | ((with_reducible refine gate_callee (f := 72) rfl ?_); refine kE (some 37) Tryz.func72 #[.slice A0 l0.length c0, .int .i64 a2, .int .i64 a1] rfl ?_; (with_reducible refine (spec_faGrand.calls k _ _ l0 a2 a1 true _ ?side1 ?side2 A32.out).mono ?_); (case side1 => exact kDb HR0); (case side2 => exact HC0.out); rintro e w40 ⟨rfl, hb⟩; refine ⟨_, rfl, ?_⟩; have n0_ := Aside0.mk (Kd.R_below (kW HO362) hb); have n1_ := Aside0.mk (Kd.R_below (kW HO366) hb); have n2_ := kH HB hb; clear HO362; clear HO366; clear HB; have HO362 := n0_; have HO366 := n1_; have HB := n2_; clear n0_ n1_ n2_; (try clear hb)))
       go_ret
       exact ⟨kZ, kO⟩
      ·replace c33 := Bool.eq_false_iff.mpr c33
       subst c33
       rw [if_neg (show ¬ (false = true) by decide)] at H
       replace H := Option.bind_eq_some_iff.mp H
       obtain ⟨t371, A410, H⟩ := H
       have A41 := Aside0.mk A410
       clear A410
       by_cases c42 : t371 = true
       ·subst c42
        rw [if_pos rfl] at H
        obtain rfl := Option.some.inj H
        go_enter Tryz.func41, Tryz.ntmps41
        go_wp2_with (first | ((with_reducible refine gate_callee (f := 57) rfl ?_); refine kE (some 14) Tryz.func57 #[.slice A0 l0.length c0, .int .i64 a2] rfl ?_; (with_reducible refine (spec_faParents.calls k _ _ l0 a2 t360 _ ?side1 ?side2 A5.out).mono ?_); (case side1 => exact kD HR0); (case side2 => exact HC0.out); rintro e w43 ⟨v361, rfl, ho0, hb⟩; refine ⟨_, rfl, ?_⟩; have n0_ := Aside0.mk (Kd.R_lower ho0 (below_size kO)); have n1_ := kH HB hb; clear HB; have HO362 := n0_; have HB := n1_; clear n0_ n1_; (try clear hb); (try clear ho0); obtain ⟨Ao44, co44, eo44⟩ := Kd.R_slice HO362.out; subst eo44) | ((with_reducible refine gate_callee (f := 56) rfl ?_); refine kE (some 16) Tryz.func56 #[.slice Ao44 t360.length co44, .int .i64 a1] rfl ?_; (with_reducible refine (spec_l1Has.calls k _ _ t360 a1 false _ ?side1 ?side2 A6.out).mono ?_); (case side1 => exact kDo HO362); (case side2 => exact (Kd.R_reads' HO362.out).2.1); rintro e w' ⟨rfl, ⟨nd, rfl⟩⟩; refine ⟨_, rfl, ?_⟩) | ((with_reducible refine gate_callee (f := 57) rfl ?_); refine kE (some 20) Tryz.func57 #[.slice A0 l0.length c0, .int .i64 a1] rfl ?_; (with_reducible refine (spec_faParents.calls k _ _ l0 a1 t364 _ ?side1 ?side2 A10.out).mono ?_); (case side1 => exact kDb HR0); (case side2 => exact HC0.out); rintro e w45 ⟨v365, rfl, ho0, hb⟩; refine ⟨_, rfl, ?_⟩; have n0_ := Aside0.mk (Kd.R_elder' (kW HO362) (Kd.R_base ho0) hb); have n1_ := Aside0.mk (Kd.R_lower (Kd.R_new' ho0 (Kd.R_lt (kW HO362))) (below_size kO)); have n2_ := kH HB hb; clear HO362; clear HB; have HO362 := n0_; have HO366 := n1_; have HB := n2_; clear n0_ n1_ n2_; (try clear hb); (try clear ho0); obtain ⟨Ao46, co46, eo46⟩ := Kd.R_slice HO366.out; subst eo46) | ((with_reducible refine gate_callee (f := 56) rfl ?_); refine kE (some 22) Tryz.func56 #[.slice Ao46 t364.length co46, .int .i64 a2] rfl ?_; (with_reducible refine (spec_l1Has.calls k _ _ t364 a2 false _ ?side1 ?side2 A11.out).mono ?_); (case side1 => exact kDo HO366); (case side2 => exact (Kd.R_reads' HO366.out).2.1); rintro e w' ⟨rfl, ⟨nd, rfl⟩⟩; refine ⟨_, rfl, ?_⟩) | ((with_reducible refine gate_callee (f := 42) rfl ?_); refine kE (some 27) Tryz.func42 #[.slice A0 l0.length c0, .int .i64 a1, .int .i64 a2] rfl ?_; (with_reducible refine (spec_faSiblings.calls k _ _ l0 a1 a2 false _ ?side1 ?side2 A17.out).mono ?_); (case side1 => exact kDb HR0); (case side2 => exact HC0.out); rintro e w47 ⟨rfl, hb⟩; refine ⟨_, rfl, ?_⟩; have n0_ := Aside0.mk (Kd.R_below (kW HO362) hb); have n1_ := Aside0.mk (Kd.R_below (kW HO366) hb); have n2_ := kH HB hb; clear HO362; clear HO366; clear HB; have HO362 := n0_; have HO366 := n1_; have HB := n2_; clear n0_ n1_ n2_; (try clear hb)) | ((with_reducible refine gate_callee (f := 72) rfl ?_); refine kE (some 32) Tryz.func72 #[.slice A0 l0.length c0, .int .i64 a1, .int .i64 a2] rfl ?_; (with_reducible refine (spec_faGrand.calls k _ _ l0 a1 a2 false _ ?side1 ?side2 A24.out).mono ?_); (case side1 => exact kDb HR0); (case side2 => exact HC0.out); rintro e w48 ⟨rfl, hb⟩; refine ⟨_, rfl, ?_⟩; have n0_ := Aside0.mk (Kd.R_below (kW HO362) hb); have n1_ := Aside0.mk (Kd.R_below (kW HO366) hb); have n2_ := kH HB hb; clear HO362; clear HO366; clear HB; have HO362 := n0_; have HO366 := n1_; have HB := n2_; clear n0_ n1_ n2_; (try clear hb)) | ((with_reducible refine gate_callee (f := 72) rfl ?_); refine kE (some 37) Tryz.func72 #[.slice A0 l0.length c0, .int .i64 a2, .int .i64 a1] rfl ?_; (with_reducible refine (spec_faGrand.calls k _ _ l0 a2 a1 false _ ?side1 ?side2 A32.out).mono ?_); (case side1 => exact kDb HR0); (case side2 => exact HC0.out); rintro e w49 ⟨rfl, hb⟩; refine ⟨_, rfl, ?_⟩; have n0_ := Aside0.mk (Kd.R_below (kW HO362) hb); have n1_ := Aside0.mk (Kd.R_below (kW HO366) hb); have n2_ := kH HB hb; clear HO362; clear HO366; clear HB; have HO362 := n0_; have HO366 := n1_; have HB := n2_; clear n0_ n1_ n2_; (try clear hb)) | ((with_reducible refine gate_callee (f := 73) rfl ?_); refine kE (some 42) Tryz.func73 #[.slice A0 l0.length c0, .int .i64 a1, .int .i64 a2] rfl ?_; (with_reducible refine (spec_faAunt.calls k _ _ l0 a1 a2 true _ ?side1 ?side2 A41.out).mono ?_); (case side1 => exact kDb HR0); (case side2 => exact HC0.out); rintro e w50 ⟨rfl, hb⟩; refine ⟨_, rfl, ?_⟩; have n0_ := Aside0.mk (Kd.R_below (kW HO362) hb); have n1_ := Aside0.mk (Kd.R_below (kW HO366) hb); have n2_ := kH HB hb; clear HO362; clear HO366; clear HB; have HO362 := n0_; have HO366 := n1_; have HB := n2_; clear n0_ n1_ n2_; (try clear hb)))
        go_ret
        exact ⟨kZ, kO⟩
       ·replace c42 := Bool.eq_false_iff.mpr c42
        subst c42
        rw [if_neg (show ¬ (false = true) by decide)] at H
        replace H := Option.bind_eq_some_iff.mp H
        obtain ⟨t372, A510, H⟩ := H
        have A51 := Aside0.mk A510
        clear A510
        by_cases c52 : t372 = true
        ·subst c52
         rw [if_pos rfl] at H
         obtain rfl := Option.some.inj H
         go_enter Tryz.func41, Tryz.ntmps41
         go_wp2_with (first | ((with_reducible refine gate_callee (f := 57) rfl ?_); refine kE (some 14) Tryz.func57 #[.slice A0 l0.length c0, .int .i64 a2] rfl ?_; (with_reducible refine (spec_faParents.calls k _ _ l0 a2 t360 _ ?side1 ?side2 A5.out).mono ?_); (case side1 => exact kD HR0); (case side2 => exact HC0.out); rintro e w53 ⟨v361, rfl, ho0, hb⟩; refine ⟨_, rfl, ?_⟩; have n0_ := Aside0.mk (Kd.R_lower ho0 (below_size kO)); have n1_ := kH HB hb; clear HB; have HO362 := n0_; have HB := n1_; clear n0_ n1_; (try clear hb); (try clear ho0); obtain ⟨Ao54, co54, eo54⟩ := Kd.R_slice HO362.out; subst eo54) | ((with_reducible refine gate_callee (f := 56) rfl ?_); refine kE (some 16) Tryz.func56 #[.slice Ao54 t360.length co54, .int .i64 a1] rfl ?_; (with_reducible refine (spec_l1Has.calls k _ _ t360 a1 false _ ?side1 ?side2 A6.out).mono ?_); (case side1 => exact kDo HO362); (case side2 => exact (Kd.R_reads' HO362.out).2.1); rintro e w' ⟨rfl, ⟨nd, rfl⟩⟩; refine ⟨_, rfl, ?_⟩) | ((with_reducible refine gate_callee (f := 57) rfl ?_); refine kE (some 20) Tryz.func57 #[.slice A0 l0.length c0, .int .i64 a1] rfl ?_; (with_reducible refine (spec_faParents.calls k _ _ l0 a1 t364 _ ?side1 ?side2 A10.out).mono ?_); (case side1 => exact kDb HR0); (case side2 => exact HC0.out); rintro e w55 ⟨v365, rfl, ho0, hb⟩; refine ⟨_, rfl, ?_⟩; have n0_ := Aside0.mk (Kd.R_elder' (kW HO362) (Kd.R_base ho0) hb); have n1_ := Aside0.mk (Kd.R_lower (Kd.R_new' ho0 (Kd.R_lt (kW HO362))) (below_size kO)); have n2_ := kH HB hb; clear HO362; clear HB; have HO362 := n0_; have HO366 := n1_; have HB := n2_; clear n0_ n1_ n2_; (try clear hb); (try clear ho0); obtain ⟨Ao56, co56, eo56⟩ := Kd.R_slice HO366.out; subst eo56) | ((with_reducible refine gate_callee (f := 56) rfl ?_); refine kE (some 22) Tryz.func56 #[.slice Ao56 t364.length co56, .int .i64 a2] rfl ?_; (with_reducible refine (spec_l1Has.calls k _ _ t364 a2 false _ ?side1 ?side2 A11.out).mono ?_); (case side1 => exact kDo HO366); (case side2 => exact (Kd.R_reads' HO366.out).2.1); rintro e w' ⟨rfl, ⟨nd, rfl⟩⟩; refine ⟨_, rfl, ?_⟩) | ((with_reducible refine gate_callee (f := 42) rfl ?_); refine kE (some 27) Tryz.func42 #[.slice A0 l0.length c0, .int .i64 a1, .int .i64 a2] rfl ?_; (with_reducible refine (spec_faSiblings.calls k _ _ l0 a1 a2 false _ ?side1 ?side2 A17.out).mono ?_); (case side1 => exact kDb HR0); (case side2 => exact HC0.out); rintro e w57 ⟨rfl, hb⟩; refine ⟨_, rfl, ?_⟩; have n0_ := Aside0.mk (Kd.R_below (kW HO362) hb); have n1_ := Aside0.mk (Kd.R_below (kW HO366) hb); have n2_ := kH HB hb; clear HO362; clear HO366; clear HB; have HO362 := n0_; have HO366 := n1_; have HB := n2_; clear n0_ n1_ n2_; (try clear hb)) | ((with_reducible refine gate_callee (f := 72) rfl ?_); refine kE (some 32) Tryz.func72 #[.slice A0 l0.length c0, .int .i64 a1, .int .i64 a2] rfl ?_; (with_reducible refine (spec_faGrand.calls k _ _ l0 a1 a2 false _ ?side1 ?side2 A24.out).mono ?_); (case side1 => exact kDb HR0); (case side2 => exact HC0.out); rintro e w58 ⟨rfl, hb⟩; refine ⟨_, rfl, ?_⟩; have n0_ := Aside0.mk (Kd.R_below (kW HO362) hb); have n1_ := Aside0.mk (Kd.R_below (kW HO366) hb); have n2_ := kH HB hb; clear HO362; clear HO366; clear HB; have HO362 := n0_; have HO366 := n1_; have HB := n2_; clear n0_ n1_ n2_; (try clear hb)) | ((with_reducible refine gate_callee (f := 72) rfl ?_); refine kE (some 37) Tryz.func72 #[.slice A0 l0.length c0, .int .i64 a2, .int .i64 a1] rfl ?_; (with_reducible refine (spec_faGrand.calls k _ _ l0 a2 a1 false _ ?side1 ?side2 A32.out).mono ?_); (case side1 => exact kDb HR0); (case side2 => exact HC0.out); rintro e w59 ⟨rfl, hb⟩; refine ⟨_, rfl, ?_⟩; have n0_ := Aside0.mk (Kd.R_below (kW HO362) hb); have n1_ := Aside0.mk (Kd.R_below (kW HO366) hb); have n2_ := kH HB hb; clear HO362; clear HO366; clear HB; have HO362 := n0_; have HO366 := n1_; have HB := n2_; clear n0_ n1_ n2_; (try clear hb)) | ((with_reducible refine gate_callee (f := 73) rfl ?_); refine kE (some 42) Tryz.func73 #[.slice A0 l0.length c0, .int .i64 a1, .int .i64 a2] rfl ?_; (with_reducible refine (spec_faAunt.calls k _ _ l0 a1 a2 false _ ?side1 ?side2 A41.out).mono ?_); (case side1 => exact kDb HR0); (case side2 => exact HC0.out); rintro e w60 ⟨rfl, hb⟩; refine ⟨_, rfl, ?_⟩; have n0_ := Aside0.mk (Kd.R_below (kW HO362) hb); have n1_ := Aside0.mk (Kd.R_below (kW HO366) hb); have n2_ := kH HB hb; clear HO362; clear HO366; clear HB; have HO362 := n0_; have HO366 := n1_; have HB := n2_; clear n0_ n1_ n2_; (try clear hb)) | ((with_reducible refine gate_callee (f := 73) rfl ?_); refine kE (some 47) Tryz.func73 #[.slice A0 l0.length c0, .int .i64 a2, .int .i64 a1] rfl ?_; (with_reducible refine (spec_faAunt.calls k _ _ l0 a2 a1 true _ ?side1 ?side2 A51.out).mono ?_); (case side1 => exact kDb HR0); (case side2 => exact HC0.out); rintro e w61 ⟨rfl, hb⟩; refine ⟨_, rfl, ?_⟩; have n0_ := Aside0.mk (Kd.R_below (kW HO362) hb); have n1_ := Aside0.mk (Kd.R_below (kW HO366) hb); have n2_ := kH HB hb; clear HO362; clear HO366; clear HB; have HO362 := n0_; have HO366 := n1_; have HB := n2_; clear n0_ n1_ n2_; (try clear hb)))
         go_ret
         exact ⟨kZ, kO⟩
        ·replace c52 := Bool.eq_false_iff.mpr c52
         subst c52
         rw [if_neg (show ¬ (false = true) by decide)] at H
         replace H := Option.bind_eq_some_iff.mp H
         obtain ⟨t373, A620, H⟩ := H
         have A62 := Aside0.mk A620
         clear A620
         by_cases c63 : t373 = true
         ·subst c63
          rw [if_pos rfl] at H
          obtain rfl := Option.some.inj H
          go_enter Tryz.func41, Tryz.ntmps41
          go_wp2_with (first | ((with_reducible refine gate_callee (f := 57) rfl ?_); refine kE (some 14) Tryz.func57 #[.slice A0 l0.length c0, .int .i64 a2] rfl ?_; (with_reducible refine (spec_faParents.calls k _ _ l0 a2 t360 _ ?side1 ?side2 A5.out).mono ?_); (case side1 => exact kD HR0); (case side2 => exact HC0.out); rintro e w64 ⟨v361, rfl, ho0, hb⟩; refine ⟨_, rfl, ?_⟩; have n0_ := Aside0.mk (Kd.R_lower ho0 (below_size kO)); have n1_ := kH HB hb; clear HB; have HO362 := n0_; have HB := n1_; clear n0_ n1_; (try clear hb); (try clear ho0); obtain ⟨Ao65, co65, eo65⟩ := Kd.R_slice HO362.out; subst eo65) | ((with_reducible refine gate_callee (f := 56) rfl ?_); refine kE (some 16) Tryz.func56 #[.slice Ao65 t360.length co65, .int .i64 a1] rfl ?_; (with_reducible refine (spec_l1Has.calls k _ _ t360 a1 false _ ?side1 ?side2 A6.out).mono ?_); (case side1 => exact kDo HO362); (case side2 => exact (Kd.R_reads' HO362.out).2.1); rintro e w' ⟨rfl, ⟨nd, rfl⟩⟩; refine ⟨_, rfl, ?_⟩) | ((with_reducible refine gate_callee (f := 57) rfl ?_); refine kE (some 20) Tryz.func57 #[.slice A0 l0.length c0, .int .i64 a1] rfl ?_; (with_reducible refine (spec_faParents.calls k _ _ l0 a1 t364 _ ?side1 ?side2 A10.out).mono ?_); (case side1 => exact kDb HR0); (case side2 => exact HC0.out); rintro e w66 ⟨v365, rfl, ho0, hb⟩; refine ⟨_, rfl, ?_⟩; have n0_ := Aside0.mk (Kd.R_elder' (kW HO362) (Kd.R_base ho0) hb); have n1_ := Aside0.mk (Kd.R_lower (Kd.R_new' ho0 (Kd.R_lt (kW HO362))) (below_size kO)); have n2_ := kH HB hb; clear HO362; clear HB; have HO362 := n0_; have HO366 := n1_; have HB := n2_; clear n0_ n1_ n2_; (try clear hb); (try clear ho0); obtain ⟨Ao67, co67, eo67⟩ := Kd.R_slice HO366.out; subst eo67) | ((with_reducible refine gate_callee (f := 56) rfl ?_); refine kE (some 22) Tryz.func56 #[.slice Ao67 t364.length co67, .int .i64 a2] rfl ?_; (with_reducible refine (spec_l1Has.calls k _ _ t364 a2 false _ ?side1 ?side2 A11.out).mono ?_); (case side1 => exact kDo HO366); (case side2 => exact (Kd.R_reads' HO366.out).2.1); rintro e w' ⟨rfl, ⟨nd, rfl⟩⟩; refine ⟨_, rfl, ?_⟩) | ((with_reducible refine gate_callee (f := 42) rfl ?_); refine kE (some 27) Tryz.func42 #[.slice A0 l0.length c0, .int .i64 a1, .int .i64 a2] rfl ?_; (with_reducible refine (spec_faSiblings.calls k _ _ l0 a1 a2 false _ ?side1 ?side2 A17.out).mono ?_); (case side1 => exact kDb HR0); (case side2 => exact HC0.out); rintro e w68 ⟨rfl, hb⟩; refine ⟨_, rfl, ?_⟩; have n0_ := Aside0.mk (Kd.R_below (kW HO362) hb); have n1_ := Aside0.mk (Kd.R_below (kW HO366) hb); have n2_ := kH HB hb; clear HO362; clear HO366; clear HB; have HO362 := n0_; have HO366 := n1_; have HB := n2_; clear n0_ n1_ n2_; (try clear hb)) | ((with_reducible refine gate_callee (f := 72) rfl ?_); refine kE (some 32) Tryz.func72 #[.slice A0 l0.length c0, .int .i64 a1, .int .i64 a2] rfl ?_; (with_reducible refine (spec_faGrand.calls k _ _ l0 a1 a2 false _ ?side1 ?side2 A24.out).mono ?_); (case side1 => exact kDb HR0); (case side2 => exact HC0.out); rintro e w69 ⟨rfl, hb⟩; refine ⟨_, rfl, ?_⟩; have n0_ := Aside0.mk (Kd.R_below (kW HO362) hb); have n1_ := Aside0.mk (Kd.R_below (kW HO366) hb); have n2_ := kH HB hb; clear HO362; clear HO366; clear HB; have HO362 := n0_; have HO366 := n1_; have HB := n2_; clear n0_ n1_ n2_; (try clear hb)) | ((with_reducible refine gate_callee (f := 72) rfl ?_); refine kE (some 37) Tryz.func72 #[.slice A0 l0.length c0, .int .i64 a2, .int .i64 a1] rfl ?_; (with_reducible refine (spec_faGrand.calls k _ _ l0 a2 a1 false _ ?side1 ?side2 A32.out).mono ?_); (case side1 => exact kDb HR0); (case side2 => exact HC0.out); rintro e w70 ⟨rfl, hb⟩; refine ⟨_, rfl, ?_⟩; have n0_ := Aside0.mk (Kd.R_below (kW HO362) hb); have n1_ := Aside0.mk (Kd.R_below (kW HO366) hb); have n2_ := kH HB hb; clear HO362; clear HO366; clear HB; have HO362 := n0_; have HO366 := n1_; have HB := n2_; clear n0_ n1_ n2_; (try clear hb)) | ((with_reducible refine gate_callee (f := 73) rfl ?_); refine kE (some 42) Tryz.func73 #[.slice A0 l0.length c0, .int .i64 a1, .int .i64 a2] rfl ?_; (with_reducible refine (spec_faAunt.calls k _ _ l0 a1 a2 false _ ?side1 ?side2 A41.out).mono ?_); (case side1 => exact kDb HR0); (case side2 => exact HC0.out); rintro e w71 ⟨rfl, hb⟩; refine ⟨_, rfl, ?_⟩; have n0_ := Aside0.mk (Kd.R_below (kW HO362) hb); have n1_ := Aside0.mk (Kd.R_below (kW HO366) hb); have n2_ := kH HB hb; clear HO362; clear HO366; clear HB; have HO362 := n0_; have HO366 := n1_; have HB := n2_; clear n0_ n1_ n2_; (try clear hb)) | ((with_reducible refine gate_callee (f := 73) rfl ?_); refine kE (some 47) Tryz.func73 #[.slice A0 l0.length c0, .int .i64 a2, .int .i64 a1] rfl ?_; (with_reducible refine (spec_faAunt.calls k _ _ l0 a2 a1 false _ ?side1 ?side2 A51.out).mono ?_); (case side1 => exact kDb HR0); (case side2 => exact HC0.out); rintro e w72 ⟨rfl, hb⟩; refine ⟨_, rfl, ?_⟩; have n0_ := Aside0.mk (Kd.R_below (kW HO362) hb); have n1_ := Aside0.mk (Kd.R_below (kW HO366) hb); have n2_ := kH HB hb; clear HO362; clear HO366; clear HB; have HO362 := n0_; have HO366 := n1_; have HB := n2_; clear n0_ n1_ n2_; (try clear hb)) | ((with_reducible refine gate_callee (f := 45) rfl ?_); refine kE (some 52) Tryz.func45 #[.slice A0 l0.length c0, .int .i64 a1, .int .i64 a2] rfl ?_; (with_reducible refine (spec_faCousins.calls k _ _ l0 a1 a2 true _ ?side1 ?side2 A62.out).mono ?_); (case side1 => exact kDb HR0); (case side2 => exact HC0.out); rintro e w73 ⟨rfl, hb⟩; refine ⟨_, rfl, ?_⟩; have n0_ := Aside0.mk (Kd.R_below (kW HO362) hb); have n1_ := Aside0.mk (Kd.R_below (kW HO366) hb); have n2_ := kH HB hb; clear HO362; clear HO366; clear HB; have HO362 := n0_; have HO366 := n1_; have HB := n2_; clear n0_ n1_ n2_; (try clear hb)))
          go_ret
          exact ⟨kZ, kO⟩
         ·replace c63 := Bool.eq_false_iff.mpr c63
          subst c63
          rw [if_neg (show ¬ (false = true) by decide)] at H
          replace H := Option.bind_eq_some_iff.mp H
          obtain ⟨t374, A740, H⟩ := H
          have A74 := Aside0.mk A740
          clear A740
          by_cases c75 : 0 ≤ a1
          ·rw [if_pos c75] at H
           have c75b0 : decide (0 ≤ a1) = true := decide_eq_true c75
           clear c75
           by_cases c76 : a1 < (t374.length : Int)
           ·rw [if_pos c76] at H
            have c76b0 : decide (a1 < (t374.length : Int)) = true := decide_eq_true c76
            clear c76
            obtain ⟨bq77, hbq77⟩ : ∃ b_ : Bool, b_ = (rdOf false t374 a1) := ⟨_, rfl⟩
            replace H : (if bq77 = true then (some (⟨#[97, 110, 99, 101, 115, 116, 111, 114]⟩ : ByteArray)) else ((spec_faAbove.f k l0 a1).bind fun t378 => (if 0 ≤ a2 then (if a2 < (t378.length : Int) then (if rdOf false t378 a2 = true then (some (⟨#[100, 101, 115, 99, 101, 110, 100, 97, 110, 116]⟩ : ByteArray)) else ((spec_faCommon.f k l0 a1 a2).bind fun t382 => (if (t382.length : Int) > 0 then (some (⟨#[107, 105, 110]⟩ : ByteArray)) else (some (⟨#[110, 111, 110, 101]⟩ : ByteArray))))) else (none)) else (none)))) = some r := by rw [← hbq77] at H; exact H
            have Nbq77 := Aside0.mk hbq77
            clear hbq77
            by_cases c78 : bq77 = true
            ·subst c78
             rw [if_pos rfl] at H
             obtain rfl := Option.some.inj H
             go_enter Tryz.func41, Tryz.ntmps41
             go_wp2_with (first | ((with_reducible refine gate_callee (f := 57) rfl ?_); refine kE (some 14) Tryz.func57 #[.slice A0 l0.length c0, .int .i64 a2] rfl ?_; (with_reducible refine (spec_faParents.calls k _ _ l0 a2 t360 _ ?side1 ?side2 A5.out).mono ?_); (case side1 => exact kD HR0); (case side2 => exact HC0.out); rintro e w79 ⟨v361, rfl, ho0, hb⟩; refine ⟨_, rfl, ?_⟩; have n0_ := Aside0.mk (Kd.R_lower ho0 (below_size kO)); have n1_ := kH HB hb; clear HB; have HO362 := n0_; have HB := n1_; clear n0_ n1_; (try clear hb); (try clear ho0); obtain ⟨Ao80, co80, eo80⟩ := Kd.R_slice HO362.out; subst eo80) | ((with_reducible refine gate_callee (f := 56) rfl ?_); refine kE (some 16) Tryz.func56 #[.slice Ao80 t360.length co80, .int .i64 a1] rfl ?_; (with_reducible refine (spec_l1Has.calls k _ _ t360 a1 false _ ?side1 ?side2 A6.out).mono ?_); (case side1 => exact kDo HO362); (case side2 => exact (Kd.R_reads' HO362.out).2.1); rintro e w' ⟨rfl, ⟨nd, rfl⟩⟩; refine ⟨_, rfl, ?_⟩) | ((with_reducible refine gate_callee (f := 57) rfl ?_); refine kE (some 20) Tryz.func57 #[.slice A0 l0.length c0, .int .i64 a1] rfl ?_; (with_reducible refine (spec_faParents.calls k _ _ l0 a1 t364 _ ?side1 ?side2 A10.out).mono ?_); (case side1 => exact kDb HR0); (case side2 => exact HC0.out); rintro e w81 ⟨v365, rfl, ho0, hb⟩; refine ⟨_, rfl, ?_⟩; have n0_ := Aside0.mk (Kd.R_elder' (kW HO362) (Kd.R_base ho0) hb); have n1_ := Aside0.mk (Kd.R_lower (Kd.R_new' ho0 (Kd.R_lt (kW HO362))) (below_size kO)); have n2_ := kH HB hb; clear HO362; clear HB; have HO362 := n0_; have HO366 := n1_; have HB := n2_; clear n0_ n1_ n2_; (try clear hb); (try clear ho0); obtain ⟨Ao82, co82, eo82⟩ := Kd.R_slice HO366.out; subst eo82) | ((with_reducible refine gate_callee (f := 56) rfl ?_); refine kE (some 22) Tryz.func56 #[.slice Ao82 t364.length co82, .int .i64 a2] rfl ?_; (with_reducible refine (spec_l1Has.calls k _ _ t364 a2 false _ ?side1 ?side2 A11.out).mono ?_); (case side1 => exact kDo HO366); (case side2 => exact (Kd.R_reads' HO366.out).2.1); rintro e w' ⟨rfl, ⟨nd, rfl⟩⟩; refine ⟨_, rfl, ?_⟩) | ((with_reducible refine gate_callee (f := 42) rfl ?_); refine kE (some 27) Tryz.func42 #[.slice A0 l0.length c0, .int .i64 a1, .int .i64 a2] rfl ?_; (with_reducible refine (spec_faSiblings.calls k _ _ l0 a1 a2 false _ ?side1 ?side2 A17.out).mono ?_); (case side1 => exact kDb HR0); (case side2 => exact HC0.out); rintro e w83 ⟨rfl, hb⟩; refine ⟨_, rfl, ?_⟩; have n0_ := Aside0.mk (Kd.R_below (kW HO362) hb); have n1_ := Aside0.mk (Kd.R_below (kW HO366) hb); have n2_ := kH HB hb; clear HO362; clear HO366; clear HB; have HO362 := n0_; have HO366 := n1_; have HB := n2_; clear n0_ n1_ n2_; (try clear hb)) | ((with_reducible refine gate_callee (f := 72) rfl ?_); refine kE (some 32) Tryz.func72 #[.slice A0 l0.length c0, .int .i64 a1, .int .i64 a2] rfl ?_; (with_reducible refine (spec_faGrand.calls k _ _ l0 a1 a2 false _ ?side1 ?side2 A24.out).mono ?_); (case side1 => exact kDb HR0); (case side2 => exact HC0.out); rintro e w84 ⟨rfl, hb⟩; refine ⟨_, rfl, ?_⟩; have n0_ := Aside0.mk (Kd.R_below (kW HO362) hb); have n1_ := Aside0.mk (Kd.R_below (kW HO366) hb); have n2_ := kH HB hb; clear HO362; clear HO366; clear HB; have HO362 := n0_; have HO366 := n1_; have HB := n2_; clear n0_ n1_ n2_; (try clear hb)) | ((with_reducible refine gate_callee (f := 72) rfl ?_); refine kE (some 37) Tryz.func72 #[.slice A0 l0.length c0, .int .i64 a2, .int .i64 a1] rfl ?_; (with_reducible refine (spec_faGrand.calls k _ _ l0 a2 a1 false _ ?side1 ?side2 A32.out).mono ?_); (case side1 => exact kDb HR0); (case side2 => exact HC0.out); rintro e w85 ⟨rfl, hb⟩; refine ⟨_, rfl, ?_⟩; have n0_ := Aside0.mk (Kd.R_below (kW HO362) hb); have n1_ := Aside0.mk (Kd.R_below (kW HO366) hb); have n2_ := kH HB hb; clear HO362; clear HO366; clear HB; have HO362 := n0_; have HO366 := n1_; have HB := n2_; clear n0_ n1_ n2_; (try clear hb)) | ((with_reducible refine gate_callee (f := 73) rfl ?_); refine kE (some 42) Tryz.func73 #[.slice A0 l0.length c0, .int .i64 a1, .int .i64 a2] rfl ?_; (with_reducible refine (spec_faAunt.calls k _ _ l0 a1 a2 false _ ?side1 ?side2 A41.out).mono ?_); (case side1 => exact kDb HR0); (case side2 => exact HC0.out); rintro e w86 ⟨rfl, hb⟩; refine ⟨_, rfl, ?_⟩; have n0_ := Aside0.mk (Kd.R_below (kW HO362) hb); have n1_ := Aside0.mk (Kd.R_below (kW HO366) hb); have n2_ := kH HB hb; clear HO362; clear HO366; clear HB; have HO362 := n0_; have HO366 := n1_; have HB := n2_; clear n0_ n1_ n2_; (try clear hb)) | ((with_reducible refine gate_callee (f := 73) rfl ?_); refine kE (some 47) Tryz.func73 #[.slice A0 l0.length c0, .int .i64 a2, .int .i64 a1] rfl ?_; (with_reducible refine (spec_faAunt.calls k _ _ l0 a2 a1 false _ ?side1 ?side2 A51.out).mono ?_); (case side1 => exact kDb HR0); (case side2 => exact HC0.out); rintro e w87 ⟨rfl, hb⟩; refine ⟨_, rfl, ?_⟩; have n0_ := Aside0.mk (Kd.R_below (kW HO362) hb); have n1_ := Aside0.mk (Kd.R_below (kW HO366) hb); have n2_ := kH HB hb; clear HO362; clear HO366; clear HB; have HO362 := n0_; have HO366 := n1_; have HB := n2_; clear n0_ n1_ n2_; (try clear hb)) | ((with_reducible refine gate_callee (f := 45) rfl ?_); refine kE (some 52) Tryz.func45 #[.slice A0 l0.length c0, .int .i64 a1, .int .i64 a2] rfl ?_; (with_reducible refine (spec_faCousins.calls k _ _ l0 a1 a2 false _ ?side1 ?side2 A62.out).mono ?_); (case side1 => exact kDb HR0); (case side2 => exact HC0.out); rintro e w88 ⟨rfl, hb⟩; refine ⟨_, rfl, ?_⟩; have n0_ := Aside0.mk (Kd.R_below (kW HO362) hb); have n1_ := Aside0.mk (Kd.R_below (kW HO366) hb); have n2_ := kH HB hb; clear HO362; clear HO366; clear HB; have HO362 := n0_; have HO366 := n1_; have HB := n2_; clear n0_ n1_ n2_; (try clear hb)) | ((with_reducible refine gate_callee (f := 74) rfl ?_); refine kE (some 56) Tryz.func74 #[.slice A0 l0.length c0, .int .i64 a2] rfl ?_; (with_reducible refine (spec_faAbove.calls k _ _ l0 a2 t374 _ ?side1 ?side2 A74.out).mono ?_); (case side1 => exact kDb HR0); (case side2 => exact HC0.out); rintro e w89 ⟨v375, rfl, ho0, hb⟩; refine ⟨_, rfl, ?_⟩; have n0_ := Aside0.mk (Kd.R_below (kW HO362) hb); have n1_ := Aside0.mk (Kd.R_below (kW HO366) hb); have n2_ := Aside0.mk (Kd.R_lower ho0 (below_size kO)); have n3_ := kH HB hb; clear HO362; clear HO366; clear HB; have HO362 := n0_; have HO366 := n1_; have HO376 := n2_; have HB := n3_; clear n0_ n1_ n2_ n3_; (try clear hb); (try clear ho0); obtain ⟨Ao90, co90, eo90⟩ := Kd.R_slice HO376.out; subst eo90; have p377 : 0 ≤ (a1 : Int) := of_decide_eq_true (by first | (with_reducible assumption) | assumption); have q377 : a1 < (t374.length : Int) := of_decide_eq_true (by first | (with_reducible assumption) | assumption); obtain ⟨ad377, e377, hx377_0⟩ := Kd.at_bool (Kd.R_reads' HO376.out).2.2 a1 p377 q377; (try rw [← Nbq77.out] at hx377_0); cases e377; replace p377 := eq_true p377; replace q377 := eq_true q377))
             go_ret
             exact ⟨kZ, kO⟩
            ·replace c78 := Bool.eq_false_iff.mpr c78
             subst c78
             rw [if_neg (show ¬ (false = true) by decide)] at H
             replace H := Option.bind_eq_some_iff.mp H
             obtain ⟨t378, A910, H⟩ := H
             have A91 := Aside0.mk A910
             clear A910
             by_cases c92 : 0 ≤ a2
             ·rw [if_pos c92] at H
              have c92b0 : decide (0 ≤ a2) = true := decide_eq_true c92
              clear c92
              by_cases c93 : a2 < (t378.length : Int)
              ·rw [if_pos c93] at H
               have c93b0 : decide (a2 < (t378.length : Int)) = true := decide_eq_true c93
               clear c93
               obtain ⟨bq94, hbq94⟩ : ∃ b_ : Bool, b_ = (rdOf false t378 a2) := ⟨_, rfl⟩
               replace H : (if bq94 = true then (some (⟨#[100, 101, 115, 99, 101, 110, 100, 97, 110, 116]⟩ : ByteArray)) else ((spec_faCommon.f k l0 a1 a2).bind fun t382 => (if (t382.length : Int) > 0 then (some (⟨#[107, 105, 110]⟩ : ByteArray)) else (some (⟨#[110, 111, 110, 101]⟩ : ByteArray))))) = some r := by rw [← hbq94] at H; exact H
               have Nbq94 := Aside0.mk hbq94
               clear hbq94
               by_cases c95 : bq94 = true
               ·subst c95
                rw [if_pos rfl] at H
                obtain rfl := Option.some.inj H
                go_enter Tryz.func41, Tryz.ntmps41
                go_wp2_with (first | ((with_reducible refine gate_callee (f := 57) rfl ?_); refine kE (some 14) Tryz.func57 #[.slice A0 l0.length c0, .int .i64 a2] rfl ?_; (with_reducible refine (spec_faParents.calls k _ _ l0 a2 t360 _ ?side1 ?side2 A5.out).mono ?_); (case side1 => exact kD HR0); (case side2 => exact HC0.out); rintro e w96 ⟨v361, rfl, ho0, hb⟩; refine ⟨_, rfl, ?_⟩; have n0_ := Aside0.mk (Kd.R_lower ho0 (below_size kO)); have n1_ := kH HB hb; clear HB; have HO362 := n0_; have HB := n1_; clear n0_ n1_; (try clear hb); (try clear ho0); obtain ⟨Ao97, co97, eo97⟩ := Kd.R_slice HO362.out; subst eo97) | ((with_reducible refine gate_callee (f := 56) rfl ?_); refine kE (some 16) Tryz.func56 #[.slice Ao97 t360.length co97, .int .i64 a1] rfl ?_; (with_reducible refine (spec_l1Has.calls k _ _ t360 a1 false _ ?side1 ?side2 A6.out).mono ?_); (case side1 => exact kDo HO362); (case side2 => exact (Kd.R_reads' HO362.out).2.1); rintro e w' ⟨rfl, ⟨nd, rfl⟩⟩; refine ⟨_, rfl, ?_⟩) | ((with_reducible refine gate_callee (f := 57) rfl ?_); refine kE (some 20) Tryz.func57 #[.slice A0 l0.length c0, .int .i64 a1] rfl ?_; (with_reducible refine (spec_faParents.calls k _ _ l0 a1 t364 _ ?side1 ?side2 A10.out).mono ?_); (case side1 => exact kDb HR0); (case side2 => exact HC0.out); rintro e w98 ⟨v365, rfl, ho0, hb⟩; refine ⟨_, rfl, ?_⟩; have n0_ := Aside0.mk (Kd.R_elder' (kW HO362) (Kd.R_base ho0) hb); have n1_ := Aside0.mk (Kd.R_lower (Kd.R_new' ho0 (Kd.R_lt (kW HO362))) (below_size kO)); have n2_ := kH HB hb; clear HO362; clear HB; have HO362 := n0_; have HO366 := n1_; have HB := n2_; clear n0_ n1_ n2_; (try clear hb); (try clear ho0); obtain ⟨Ao99, co99, eo99⟩ := Kd.R_slice HO366.out; subst eo99) | ((with_reducible refine gate_callee (f := 56) rfl ?_); refine kE (some 22) Tryz.func56 #[.slice Ao99 t364.length co99, .int .i64 a2] rfl ?_; (with_reducible refine (spec_l1Has.calls k _ _ t364 a2 false _ ?side1 ?side2 A11.out).mono ?_); (case side1 => exact kDo HO366); (case side2 => exact (Kd.R_reads' HO366.out).2.1); rintro e w' ⟨rfl, ⟨nd, rfl⟩⟩; refine ⟨_, rfl, ?_⟩) | ((with_reducible refine gate_callee (f := 42) rfl ?_); refine kE (some 27) Tryz.func42 #[.slice A0 l0.length c0, .int .i64 a1, .int .i64 a2] rfl ?_; (with_reducible refine (spec_faSiblings.calls k _ _ l0 a1 a2 false _ ?side1 ?side2 A17.out).mono ?_); (case side1 => exact kDb HR0); (case side2 => exact HC0.out); rintro e w100 ⟨rfl, hb⟩; refine ⟨_, rfl, ?_⟩; have n0_ := Aside0.mk (Kd.R_below (kW HO362) hb); have n1_ := Aside0.mk (Kd.R_below (kW HO366) hb); have n2_ := kH HB hb; clear HO362; clear HO366; clear HB; have HO362 := n0_; have HO366 := n1_; have HB := n2_; clear n0_ n1_ n2_; (try clear hb)) | ((with_reducible refine gate_callee (f := 72) rfl ?_); refine kE (some 32) Tryz.func72 #[.slice A0 l0.length c0, .int .i64 a1, .int .i64 a2] rfl ?_; (with_reducible refine (spec_faGrand.calls k _ _ l0 a1 a2 false _ ?side1 ?side2 A24.out).mono ?_); (case side1 => exact kDb HR0); (case side2 => exact HC0.out); rintro e w101 ⟨rfl, hb⟩; refine ⟨_, rfl, ?_⟩; have n0_ := Aside0.mk (Kd.R_below (kW HO362) hb); have n1_ := Aside0.mk (Kd.R_below (kW HO366) hb); have n2_ := kH HB hb; clear HO362; clear HO366; clear HB; have HO362 := n0_; have HO366 := n1_; have HB := n2_; clear n0_ n1_ n2_; (try clear hb)) | ((with_reducible refine gate_callee (f := 72) rfl ?_); refine kE (some 37) Tryz.func72 #[.slice A0 l0.length c0, .int .i64 a2, .int .i64 a1] rfl ?_; (with_reducible refine (spec_faGrand.calls k _ _ l0 a2 a1 false _ ?side1 ?side2 A32.out).mono ?_); (case side1 => exact kDb HR0); (case side2 => exact HC0.out); rintro e w102 ⟨rfl, hb⟩; refine ⟨_, rfl, ?_⟩; have n0_ := Aside0.mk (Kd.R_below (kW HO362) hb); have n1_ := Aside0.mk (Kd.R_below (kW HO366) hb); have n2_ := kH HB hb; clear HO362; clear HO366; clear HB; have HO362 := n0_; have HO366 := n1_; have HB := n2_; clear n0_ n1_ n2_; (try clear hb)) | ((with_reducible refine gate_callee (f := 73) rfl ?_); refine kE (some 42) Tryz.func73 #[.slice A0 l0.length c0, .int .i64 a1, .int .i64 a2] rfl ?_; (with_reducible refine (spec_faAunt.calls k _ _ l0 a1 a2 false _ ?side1 ?side2 A41.out).mono ?_); (case side1 => exact kDb HR0); (case side2 => exact HC0.out); rintro e w103 ⟨rfl, hb⟩; refine ⟨_, rfl, ?_⟩; have n0_ := Aside0.mk (Kd.R_below (kW HO362) hb); have n1_ := Aside0.mk (Kd.R_below (kW HO366) hb); have n2_ := kH HB hb; clear HO362; clear HO366; clear HB; have HO362 := n0_; have HO366 := n1_; have HB := n2_; clear n0_ n1_ n2_; (try clear hb)) | ((with_reducible refine gate_callee (f := 73) rfl ?_); refine kE (some 47) Tryz.func73 #[.slice A0 l0.length c0, .int .i64 a2, .int .i64 a1] rfl ?_; (with_reducible refine (spec_faAunt.calls k _ _ l0 a2 a1 false _ ?side1 ?side2 A51.out).mono ?_); (case side1 => exact kDb HR0); (case side2 => exact HC0.out); rintro e w104 ⟨rfl, hb⟩; refine ⟨_, rfl, ?_⟩; have n0_ := Aside0.mk (Kd.R_below (kW HO362) hb); have n1_ := Aside0.mk (Kd.R_below (kW HO366) hb); have n2_ := kH HB hb; clear HO362; clear HO366; clear HB; have HO362 := n0_; have HO366 := n1_; have HB := n2_; clear n0_ n1_ n2_; (try clear hb)) | ((with_reducible refine gate_callee (f := 45) rfl ?_); refine kE (some 52) Tryz.func45 #[.slice A0 l0.length c0, .int .i64 a1, .int .i64 a2] rfl ?_; (with_reducible refine (spec_faCousins.calls k _ _ l0 a1 a2 false _ ?side1 ?side2 A62.out).mono ?_); (case side1 => exact kDb HR0); (case side2 => exact HC0.out); rintro e w105 ⟨rfl, hb⟩; refine ⟨_, rfl, ?_⟩; have n0_ := Aside0.mk (Kd.R_below (kW HO362) hb); have n1_ := Aside0.mk (Kd.R_below (kW HO366) hb); have n2_ := kH HB hb; clear HO362; clear HO366; clear HB; have HO362 := n0_; have HO366 := n1_; have HB := n2_; clear n0_ n1_ n2_; (try clear hb)) | ((with_reducible refine gate_callee (f := 74) rfl ?_); refine kE (some 56) Tryz.func74 #[.slice A0 l0.length c0, .int .i64 a2] rfl ?_; (with_reducible refine (spec_faAbove.calls k _ _ l0 a2 t374 _ ?side1 ?side2 A74.out).mono ?_); (case side1 => exact kDb HR0); (case side2 => exact HC0.out); rintro e w106 ⟨v375, rfl, ho0, hb⟩; refine ⟨_, rfl, ?_⟩; have n0_ := Aside0.mk (Kd.R_below (kW HO362) hb); have n1_ := Aside0.mk (Kd.R_below (kW HO366) hb); have n2_ := Aside0.mk (Kd.R_lower ho0 (below_size kO)); have n3_ := kH HB hb; clear HO362; clear HO366; clear HB; have HO362 := n0_; have HO366 := n1_; have HO376 := n2_; have HB := n3_; clear n0_ n1_ n2_ n3_; (try clear hb); (try clear ho0); obtain ⟨Ao107, co107, eo107⟩ := Kd.R_slice HO376.out; subst eo107; have p377 : 0 ≤ (a1 : Int) := of_decide_eq_true (by first | (with_reducible assumption) | assumption); have q377 : a1 < (t374.length : Int) := of_decide_eq_true (by first | (with_reducible assumption) | assumption); obtain ⟨ad377, e377, hx377_0⟩ := Kd.at_bool (Kd.R_reads' HO376.out).2.2 a1 p377 q377; (try rw [← Nbq77.out] at hx377_0); (try rw [← Nbq94.out] at hx377_0); cases e377; replace p377 := eq_true p377; replace q377 := eq_true q377) | ((with_reducible refine gate_callee (f := 74) rfl ?_); refine kE (some 63) Tryz.func74 #[.slice A0 l0.length c0, .int .i64 a1] rfl ?_; (with_reducible refine (spec_faAbove.calls k _ _ l0 a1 t378 _ ?side1 ?side2 A91.out).mono ?_); (case side1 => exact kDb HR0); (case side2 => exact HC0.out); rintro e w108 ⟨v379, rfl, ho0, hb⟩; refine ⟨_, rfl, ?_⟩; have n0_ := Aside0.mk (Kd.R_below (kW HO362) hb); have n1_ := Aside0.mk (Kd.R_below (kW HO366) hb); have n2_ := Aside0.mk (Kd.R_elder' (kW HO376) (Kd.R_base ho0) hb); have n3_ := Aside0.mk (Kd.R_lower (Kd.R_new' ho0 (Kd.R_lt (kW HO376))) (below_size kO)); have n4_ := kH HB hb; clear HO362; clear HO366; clear HO376; clear HB; have HO362 := n0_; have HO366 := n1_; have HO376 := n2_; have HO380 := n3_; have HB := n4_; clear n0_ n1_ n2_ n3_ n4_; (try clear hb); (try clear ho0); obtain ⟨Ao109, co109, eo109⟩ := Kd.R_slice HO380.out; subst eo109; have p381 : 0 ≤ (a2 : Int) := of_decide_eq_true (by first | (with_reducible assumption) | assumption); have q381 : a2 < (t378.length : Int) := of_decide_eq_true (by first | (with_reducible assumption) | assumption); obtain ⟨ad381, e381, hx381_0⟩ := Kd.at_bool (Kd.R_reads' HO380.out).2.2 a2 p381 q381; (try rw [← Nbq77.out] at hx381_0); (try rw [← Nbq94.out] at hx381_0); cases e381; replace p381 := eq_true p381; replace q381 := eq_true q381))
                go_ret
                exact ⟨kZ, kO⟩
               ·replace c95 := Bool.eq_false_iff.mpr c95
                subst c95
                rw [if_neg (show ¬ (false = true) by decide)] at H
                replace H := Option.bind_eq_some_iff.mp H
                obtain ⟨t382, A1100, H⟩ := H
                have A110 := Aside0.mk A1100
                clear A1100
                by_cases c111 : (t382.length : Int) > 0
                ·rw [if_pos c111] at H
                 have c111b0 : decide (0 < (t382.length : Int)) = true := decide_eq_true c111
                 have c111b1 : decide (0 < t382.length) = true := decide_eq_true (by omega)
                 clear c111
                 obtain rfl := Option.some.inj H
                 go_enter Tryz.func41, Tryz.ntmps41
                 go_wp2_with (first | ((with_reducible refine gate_callee (f := 57) rfl ?_); refine kE (some 14) Tryz.func57 #[.slice A0 l0.length c0, .int .i64 a2] rfl ?_; (with_reducible refine (spec_faParents.calls k _ _ l0 a2 t360 _ ?side1 ?side2 A5.out).mono ?_); (case side1 => exact kD HR0); (case side2 => exact HC0.out); rintro e w112 ⟨v361, rfl, ho0, hb⟩; refine ⟨_, rfl, ?_⟩; have n0_ := Aside0.mk (Kd.R_lower ho0 (below_size kO)); have n1_ := kH HB hb; clear HB; have HO362 := n0_; have HB := n1_; clear n0_ n1_; (try clear hb); (try clear ho0); obtain ⟨Ao113, co113, eo113⟩ := Kd.R_slice HO362.out; subst eo113) | ((with_reducible refine gate_callee (f := 56) rfl ?_); refine kE (some 16) Tryz.func56 #[.slice Ao113 t360.length co113, .int .i64 a1] rfl ?_; (with_reducible refine (spec_l1Has.calls k _ _ t360 a1 false _ ?side1 ?side2 A6.out).mono ?_); (case side1 => exact kDo HO362); (case side2 => exact (Kd.R_reads' HO362.out).2.1); rintro e w' ⟨rfl, ⟨nd, rfl⟩⟩; refine ⟨_, rfl, ?_⟩) | ((with_reducible refine gate_callee (f := 57) rfl ?_); refine kE (some 20) Tryz.func57 #[.slice A0 l0.length c0, .int .i64 a1] rfl ?_; (with_reducible refine (spec_faParents.calls k _ _ l0 a1 t364 _ ?side1 ?side2 A10.out).mono ?_); (case side1 => exact kDb HR0); (case side2 => exact HC0.out); rintro e w114 ⟨v365, rfl, ho0, hb⟩; refine ⟨_, rfl, ?_⟩; have n0_ := Aside0.mk (Kd.R_elder' (kW HO362) (Kd.R_base ho0) hb); have n1_ := Aside0.mk (Kd.R_lower (Kd.R_new' ho0 (Kd.R_lt (kW HO362))) (below_size kO)); have n2_ := kH HB hb; clear HO362; clear HB; have HO362 := n0_; have HO366 := n1_; have HB := n2_; clear n0_ n1_ n2_; (try clear hb); (try clear ho0); obtain ⟨Ao115, co115, eo115⟩ := Kd.R_slice HO366.out; subst eo115) | ((with_reducible refine gate_callee (f := 56) rfl ?_); refine kE (some 22) Tryz.func56 #[.slice Ao115 t364.length co115, .int .i64 a2] rfl ?_; (with_reducible refine (spec_l1Has.calls k _ _ t364 a2 false _ ?side1 ?side2 A11.out).mono ?_); (case side1 => exact kDo HO366); (case side2 => exact (Kd.R_reads' HO366.out).2.1); rintro e w' ⟨rfl, ⟨nd, rfl⟩⟩; refine ⟨_, rfl, ?_⟩) | ((with_reducible refine gate_callee (f := 42) rfl ?_); refine kE (some 27) Tryz.func42 #[.slice A0 l0.length c0, .int .i64 a1, .int .i64 a2] rfl ?_; (with_reducible refine (spec_faSiblings.calls k _ _ l0 a1 a2 false _ ?side1 ?side2 A17.out).mono ?_); (case side1 => exact kDb HR0); (case side2 => exact HC0.out); rintro e w116 ⟨rfl, hb⟩; refine ⟨_, rfl, ?_⟩; have n0_ := Aside0.mk (Kd.R_below (kW HO362) hb); have n1_ := Aside0.mk (Kd.R_below (kW HO366) hb); have n2_ := kH HB hb; clear HO362; clear HO366; clear HB; have HO362 := n0_; have HO366 := n1_; have HB := n2_; clear n0_ n1_ n2_; (try clear hb)) | ((with_reducible refine gate_callee (f := 72) rfl ?_); refine kE (some 32) Tryz.func72 #[.slice A0 l0.length c0, .int .i64 a1, .int .i64 a2] rfl ?_; (with_reducible refine (spec_faGrand.calls k _ _ l0 a1 a2 false _ ?side1 ?side2 A24.out).mono ?_); (case side1 => exact kDb HR0); (case side2 => exact HC0.out); rintro e w117 ⟨rfl, hb⟩; refine ⟨_, rfl, ?_⟩; have n0_ := Aside0.mk (Kd.R_below (kW HO362) hb); have n1_ := Aside0.mk (Kd.R_below (kW HO366) hb); have n2_ := kH HB hb; clear HO362; clear HO366; clear HB; have HO362 := n0_; have HO366 := n1_; have HB := n2_; clear n0_ n1_ n2_; (try clear hb)) | ((with_reducible refine gate_callee (f := 72) rfl ?_); refine kE (some 37) Tryz.func72 #[.slice A0 l0.length c0, .int .i64 a2, .int .i64 a1] rfl ?_; (with_reducible refine (spec_faGrand.calls k _ _ l0 a2 a1 false _ ?side1 ?side2 A32.out).mono ?_); (case side1 => exact kDb HR0); (case side2 => exact HC0.out); rintro e w118 ⟨rfl, hb⟩; refine ⟨_, rfl, ?_⟩; have n0_ := Aside0.mk (Kd.R_below (kW HO362) hb); have n1_ := Aside0.mk (Kd.R_below (kW HO366) hb); have n2_ := kH HB hb; clear HO362; clear HO366; clear HB; have HO362 := n0_; have HO366 := n1_; have HB := n2_; clear n0_ n1_ n2_; (try clear hb)) | ((with_reducible refine gate_callee (f := 73) rfl ?_); refine kE (some 42) Tryz.func73 #[.slice A0 l0.length c0, .int .i64 a1, .int .i64 a2] rfl ?_; (with_reducible refine (spec_faAunt.calls k _ _ l0 a1 a2 false _ ?side1 ?side2 A41.out).mono ?_); (case side1 => exact kDb HR0); (case side2 => exact HC0.out); rintro e w119 ⟨rfl, hb⟩; refine ⟨_, rfl, ?_⟩; have n0_ := Aside0.mk (Kd.R_below (kW HO362) hb); have n1_ := Aside0.mk (Kd.R_below (kW HO366) hb); have n2_ := kH HB hb; clear HO362; clear HO366; clear HB; have HO362 := n0_; have HO366 := n1_; have HB := n2_; clear n0_ n1_ n2_; (try clear hb)) | ((with_reducible refine gate_callee (f := 73) rfl ?_); refine kE (some 47) Tryz.func73 #[.slice A0 l0.length c0, .int .i64 a2, .int .i64 a1] rfl ?_; (with_reducible refine (spec_faAunt.calls k _ _ l0 a2 a1 false _ ?side1 ?side2 A51.out).mono ?_); (case side1 => exact kDb HR0); (case side2 => exact HC0.out); rintro e w120 ⟨rfl, hb⟩; refine ⟨_, rfl, ?_⟩; have n0_ := Aside0.mk (Kd.R_below (kW HO362) hb); have n1_ := Aside0.mk (Kd.R_below (kW HO366) hb); have n2_ := kH HB hb; clear HO362; clear HO366; clear HB; have HO362 := n0_; have HO366 := n1_; have HB := n2_; clear n0_ n1_ n2_; (try clear hb)) | ((with_reducible refine gate_callee (f := 45) rfl ?_); refine kE (some 52) Tryz.func45 #[.slice A0 l0.length c0, .int .i64 a1, .int .i64 a2] rfl ?_; (with_reducible refine (spec_faCousins.calls k _ _ l0 a1 a2 false _ ?side1 ?side2 A62.out).mono ?_); (case side1 => exact kDb HR0); (case side2 => exact HC0.out); rintro e w121 ⟨rfl, hb⟩; refine ⟨_, rfl, ?_⟩; have n0_ := Aside0.mk (Kd.R_below (kW HO362) hb); have n1_ := Aside0.mk (Kd.R_below (kW HO366) hb); have n2_ := kH HB hb; clear HO362; clear HO366; clear HB; have HO362 := n0_; have HO366 := n1_; have HB := n2_; clear n0_ n1_ n2_; (try clear hb)) | ((with_reducible refine gate_callee (f := 74) rfl ?_); refine kE (some 56) Tryz.func74 #[.slice A0 l0.length c0, .int .i64 a2] rfl ?_; (with_reducible refine (spec_faAbove.calls k _ _ l0 a2 t374 _ ?side1 ?side2 A74.out).mono ?_); (case side1 => exact kDb HR0); (case side2 => exact HC0.out); rintro e w122 ⟨v375, rfl, ho0, hb⟩; refine ⟨_, rfl, ?_⟩; have n0_ := Aside0.mk (Kd.R_below (kW HO362) hb); have n1_ := Aside0.mk (Kd.R_below (kW HO366) hb); have n2_ := Aside0.mk (Kd.R_lower ho0 (below_size kO)); have n3_ := kH HB hb; clear HO362; clear HO366; clear HB; have HO362 := n0_; have HO366 := n1_; have HO376 := n2_; have HB := n3_; clear n0_ n1_ n2_ n3_; (try clear hb); (try clear ho0); obtain ⟨Ao123, co123, eo123⟩ := Kd.R_slice HO376.out; subst eo123; have p377 : 0 ≤ (a1 : Int) := of_decide_eq_true (by first | (with_reducible assumption) | assumption); have q377 : a1 < (t374.length : Int) := of_decide_eq_true (by first | (with_reducible assumption) | assumption); obtain ⟨ad377, e377, hx377_0⟩ := Kd.at_bool (Kd.R_reads' HO376.out).2.2 a1 p377 q377; (try rw [← Nbq77.out] at hx377_0); (try rw [← Nbq94.out] at hx377_0); cases e377; replace p377 := eq_true p377; replace q377 := eq_true q377) | ((with_reducible refine gate_callee (f := 74) rfl ?_); refine kE (some 63) Tryz.func74 #[.slice A0 l0.length c0, .int .i64 a1] rfl ?_; (with_reducible refine (spec_faAbove.calls k _ _ l0 a1 t378 _ ?side1 ?side2 A91.out).mono ?_); (case side1 => exact kDb HR0); (case side2 => exact HC0.out); rintro e w124 ⟨v379, rfl, ho0, hb⟩; refine ⟨_, rfl, ?_⟩; have n0_ := Aside0.mk (Kd.R_below (kW HO362) hb); have n1_ := Aside0.mk (Kd.R_below (kW HO366) hb); have n2_ := Aside0.mk (Kd.R_elder' (kW HO376) (Kd.R_base ho0) hb); have n3_ := Aside0.mk (Kd.R_lower (Kd.R_new' ho0 (Kd.R_lt (kW HO376))) (below_size kO)); have n4_ := kH HB hb; clear HO362; clear HO366; clear HO376; clear HB; have HO362 := n0_; have HO366 := n1_; have HO376 := n2_; have HO380 := n3_; have HB := n4_; clear n0_ n1_ n2_ n3_ n4_; (try clear hb); (try clear ho0); obtain ⟨Ao125, co125, eo125⟩ := Kd.R_slice HO380.out; subst eo125; have p381 : 0 ≤ (a2 : Int) := of_decide_eq_true (by first | (with_reducible assumption) | assumption); have q381 : a2 < (t378.length : Int) := of_decide_eq_true (by first | (with_reducible assumption) | assumption); obtain ⟨ad381, e381, hx381_0⟩ := Kd.at_bool (Kd.R_reads' HO380.out).2.2 a2 p381 q381; (try rw [← Nbq77.out] at hx381_0); (try rw [← Nbq94.out] at hx381_0); cases e381; replace p381 := eq_true p381; replace q381 := eq_true q381) | ((with_reducible refine gate_callee (f := 46) rfl ?_); refine kE (some 71) Tryz.func46 #[.slice A0 l0.length c0, .int .i64 a1, .int .i64 a2] rfl ?_; (with_reducible refine (spec_faCommon.calls k _ _ l0 a1 a2 t382 _ ?side1 ?side2 A110.out).mono ?_); (case side1 => exact kDb HR0); (case side2 => exact HC0.out); rintro e w126 ⟨v383, rfl, ho0, hb⟩; refine ⟨_, rfl, ?_⟩; have n0_ := Aside0.mk (Kd.R_elder' (kW HO362) (Kd.R_base ho0) hb); have n1_ := Aside0.mk (Kd.R_elder' (kW HO366) (Kd.R_base ho0) hb); have n2_ := Aside0.mk (Kd.R_below (kW HO376) hb); have n3_ := Aside0.mk (Kd.R_below (kW HO380) hb); have n4_ := Aside0.mk (Kd.R_lower (Kd.R_new' (Kd.R_new' ho0 (Kd.R_lt (kW HO362))) (Kd.R_lt (kW HO366))) (below_size kO)); have n5_ := kH HB hb; clear HO362; clear HO366; clear HO376; clear HO380; clear HB; have HO362 := n0_; have HO366 := n1_; have HO376 := n2_; have HO380 := n3_; have HO384 := n4_; have HB := n5_; clear n0_ n1_ n2_ n3_ n4_ n5_; (try clear hb); (try clear ho0); obtain ⟨Ao127, co127, eo127⟩ := Kd.R_slice HO384.out; subst eo127))
                 go_ret
                 exact ⟨kZ, kO⟩
                ·rw [if_neg c111] at H
                 have c111b0 : decide (0 < (t382.length : Int)) = false := decide_eq_false c111
                 have c111b1 : decide (0 < t382.length) = false := decide_eq_false (by omega)
                 clear c111
                 obtain rfl := Option.some.inj H
                 go_enter Tryz.func41, Tryz.ntmps41
                 go_wp2_with (first | ((with_reducible refine gate_callee (f := 57) rfl ?_); refine kE (some 14) Tryz.func57 #[.slice A0 l0.length c0, .int .i64 a2] rfl ?_; (with_reducible refine (spec_faParents.calls k _ _ l0 a2 t360 _ ?side1 ?side2 A5.out).mono ?_); (case side1 => exact kD HR0); (case side2 => exact HC0.out); rintro e w128 ⟨v361, rfl, ho0, hb⟩; refine ⟨_, rfl, ?_⟩; have n0_ := Aside0.mk (Kd.R_lower ho0 (below_size kO)); have n1_ := kH HB hb; clear HB; have HO362 := n0_; have HB := n1_; clear n0_ n1_; (try clear hb); (try clear ho0); obtain ⟨Ao129, co129, eo129⟩ := Kd.R_slice HO362.out; subst eo129) | ((with_reducible refine gate_callee (f := 56) rfl ?_); refine kE (some 16) Tryz.func56 #[.slice Ao129 t360.length co129, .int .i64 a1] rfl ?_; (with_reducible refine (spec_l1Has.calls k _ _ t360 a1 false _ ?side1 ?side2 A6.out).mono ?_); (case side1 => exact kDo HO362); (case side2 => exact (Kd.R_reads' HO362.out).2.1); rintro e w' ⟨rfl, ⟨nd, rfl⟩⟩; refine ⟨_, rfl, ?_⟩) | ((with_reducible refine gate_callee (f := 57) rfl ?_); refine kE (some 20) Tryz.func57 #[.slice A0 l0.length c0, .int .i64 a1] rfl ?_; (with_reducible refine (spec_faParents.calls k _ _ l0 a1 t364 _ ?side1 ?side2 A10.out).mono ?_); (case side1 => exact kDb HR0); (case side2 => exact HC0.out); rintro e w130 ⟨v365, rfl, ho0, hb⟩; refine ⟨_, rfl, ?_⟩; have n0_ := Aside0.mk (Kd.R_elder' (kW HO362) (Kd.R_base ho0) hb); have n1_ := Aside0.mk (Kd.R_lower (Kd.R_new' ho0 (Kd.R_lt (kW HO362))) (below_size kO)); have n2_ := kH HB hb; clear HO362; clear HB; have HO362 := n0_; have HO366 := n1_; have HB := n2_; clear n0_ n1_ n2_; (try clear hb); (try clear ho0); obtain ⟨Ao131, co131, eo131⟩ := Kd.R_slice HO366.out; subst eo131) | ((with_reducible refine gate_callee (f := 56) rfl ?_); refine kE (some 22) Tryz.func56 #[.slice Ao131 t364.length co131, .int .i64 a2] rfl ?_; (with_reducible refine (spec_l1Has.calls k _ _ t364 a2 false _ ?side1 ?side2 A11.out).mono ?_); (case side1 => exact kDo HO366); (case side2 => exact (Kd.R_reads' HO366.out).2.1); rintro e w' ⟨rfl, ⟨nd, rfl⟩⟩; refine ⟨_, rfl, ?_⟩) | ((with_reducible refine gate_callee (f := 42) rfl ?_); refine kE (some 27) Tryz.func42 #[.slice A0 l0.length c0, .int .i64 a1, .int .i64 a2] rfl ?_; (with_reducible refine (spec_faSiblings.calls k _ _ l0 a1 a2 false _ ?side1 ?side2 A17.out).mono ?_); (case side1 => exact kDb HR0); (case side2 => exact HC0.out); rintro e w132 ⟨rfl, hb⟩; refine ⟨_, rfl, ?_⟩; have n0_ := Aside0.mk (Kd.R_below (kW HO362) hb); have n1_ := Aside0.mk (Kd.R_below (kW HO366) hb); have n2_ := kH HB hb; clear HO362; clear HO366; clear HB; have HO362 := n0_; have HO366 := n1_; have HB := n2_; clear n0_ n1_ n2_; (try clear hb)) | ((with_reducible refine gate_callee (f := 72) rfl ?_); refine kE (some 32) Tryz.func72 #[.slice A0 l0.length c0, .int .i64 a1, .int .i64 a2] rfl ?_; (with_reducible refine (spec_faGrand.calls k _ _ l0 a1 a2 false _ ?side1 ?side2 A24.out).mono ?_); (case side1 => exact kDb HR0); (case side2 => exact HC0.out); rintro e w133 ⟨rfl, hb⟩; refine ⟨_, rfl, ?_⟩; have n0_ := Aside0.mk (Kd.R_below (kW HO362) hb); have n1_ := Aside0.mk (Kd.R_below (kW HO366) hb); have n2_ := kH HB hb; clear HO362; clear HO366; clear HB; have HO362 := n0_; have HO366 := n1_; have HB := n2_; clear n0_ n1_ n2_; (try clear hb)) | ((with_reducible refine gate_callee (f := 72) rfl ?_); refine kE (some 37) Tryz.func72 #[.slice A0 l0.length c0, .int .i64 a2, .int .i64 a1] rfl ?_; (with_reducible refine (spec_faGrand.calls k _ _ l0 a2 a1 false _ ?side1 ?side2 A32.out).mono ?_); (case side1 => exact kDb HR0); (case side2 => exact HC0.out); rintro e w134 ⟨rfl, hb⟩; refine ⟨_, rfl, ?_⟩; have n0_ := Aside0.mk (Kd.R_below (kW HO362) hb); have n1_ := Aside0.mk (Kd.R_below (kW HO366) hb); have n2_ := kH HB hb; clear HO362; clear HO366; clear HB; have HO362 := n0_; have HO366 := n1_; have HB := n2_; clear n0_ n1_ n2_; (try clear hb)) | ((with_reducible refine gate_callee (f := 73) rfl ?_); refine kE (some 42) Tryz.func73 #[.slice A0 l0.length c0, .int .i64 a1, .int .i64 a2] rfl ?_; (with_reducible refine (spec_faAunt.calls k _ _ l0 a1 a2 false _ ?side1 ?side2 A41.out).mono ?_); (case side1 => exact kDb HR0); (case side2 => exact HC0.out); rintro e w135 ⟨rfl, hb⟩; refine ⟨_, rfl, ?_⟩; have n0_ := Aside0.mk (Kd.R_below (kW HO362) hb); have n1_ := Aside0.mk (Kd.R_below (kW HO366) hb); have n2_ := kH HB hb; clear HO362; clear HO366; clear HB; have HO362 := n0_; have HO366 := n1_; have HB := n2_; clear n0_ n1_ n2_; (try clear hb)) | ((with_reducible refine gate_callee (f := 73) rfl ?_); refine kE (some 47) Tryz.func73 #[.slice A0 l0.length c0, .int .i64 a2, .int .i64 a1] rfl ?_; (with_reducible refine (spec_faAunt.calls k _ _ l0 a2 a1 false _ ?side1 ?side2 A51.out).mono ?_); (case side1 => exact kDb HR0); (case side2 => exact HC0.out); rintro e w136 ⟨rfl, hb⟩; refine ⟨_, rfl, ?_⟩; have n0_ := Aside0.mk (Kd.R_below (kW HO362) hb); have n1_ := Aside0.mk (Kd.R_below (kW HO366) hb); have n2_ := kH HB hb; clear HO362; clear HO366; clear HB; have HO362 := n0_; have HO366 := n1_; have HB := n2_; clear n0_ n1_ n2_; (try clear hb)) | ((with_reducible refine gate_callee (f := 45) rfl ?_); refine kE (some 52) Tryz.func45 #[.slice A0 l0.length c0, .int .i64 a1, .int .i64 a2] rfl ?_; (with_reducible refine (spec_faCousins.calls k _ _ l0 a1 a2 false _ ?side1 ?side2 A62.out).mono ?_); (case side1 => exact kDb HR0); (case side2 => exact HC0.out); rintro e w137 ⟨rfl, hb⟩; refine ⟨_, rfl, ?_⟩; have n0_ := Aside0.mk (Kd.R_below (kW HO362) hb); have n1_ := Aside0.mk (Kd.R_below (kW HO366) hb); have n2_ := kH HB hb; clear HO362; clear HO366; clear HB; have HO362 := n0_; have HO366 := n1_; have HB := n2_; clear n0_ n1_ n2_; (try clear hb)) | ((with_reducible refine gate_callee (f := 74) rfl ?_); refine kE (some 56) Tryz.func74 #[.slice A0 l0.length c0, .int .i64 a2] rfl ?_; (with_reducible refine (spec_faAbove.calls k _ _ l0 a2 t374 _ ?side1 ?side2 A74.out).mono ?_); (case side1 => exact kDb HR0); (case side2 => exact HC0.out); rintro e w138 ⟨v375, rfl, ho0, hb⟩; refine ⟨_, rfl, ?_⟩; have n0_ := Aside0.mk (Kd.R_below (kW HO362) hb); have n1_ := Aside0.mk (Kd.R_below (kW HO366) hb); have n2_ := Aside0.mk (Kd.R_lower ho0 (below_size kO)); have n3_ := kH HB hb; clear HO362; clear HO366; clear HB; have HO362 := n0_; have HO366 := n1_; have HO376 := n2_; have HB := n3_; clear n0_ n1_ n2_ n3_; (try clear hb); (try clear ho0); obtain ⟨Ao139, co139, eo139⟩ := Kd.R_slice HO376.out; subst eo139; have p377 : 0 ≤ (a1 : Int) := of_decide_eq_true (by first | (with_reducible assumption) | assumption); have q377 : a1 < (t374.length : Int) := of_decide_eq_true (by first | (with_reducible assumption) | assumption); obtain ⟨ad377, e377, hx377_0⟩ := Kd.at_bool (Kd.R_reads' HO376.out).2.2 a1 p377 q377; (try rw [← Nbq77.out] at hx377_0); (try rw [← Nbq94.out] at hx377_0); cases e377; replace p377 := eq_true p377; replace q377 := eq_true q377) | ((with_reducible refine gate_callee (f := 74) rfl ?_); refine kE (some 63) Tryz.func74 #[.slice A0 l0.length c0, .int .i64 a1] rfl ?_; (with_reducible refine (spec_faAbove.calls k _ _ l0 a1 t378 _ ?side1 ?side2 A91.out).mono ?_); (case side1 => exact kDb HR0); (case side2 => exact HC0.out); rintro e w140 ⟨v379, rfl, ho0, hb⟩; refine ⟨_, rfl, ?_⟩; have n0_ := Aside0.mk (Kd.R_below (kW HO362) hb); have n1_ := Aside0.mk (Kd.R_below (kW HO366) hb); have n2_ := Aside0.mk (Kd.R_elder' (kW HO376) (Kd.R_base ho0) hb); have n3_ := Aside0.mk (Kd.R_lower (Kd.R_new' ho0 (Kd.R_lt (kW HO376))) (below_size kO)); have n4_ := kH HB hb; clear HO362; clear HO366; clear HO376; clear HB; have HO362 := n0_; have HO366 := n1_; have HO376 := n2_; have HO380 := n3_; have HB := n4_; clear n0_ n1_ n2_ n3_ n4_; (try clear hb); (try clear ho0); obtain ⟨Ao141, co141, eo141⟩ := Kd.R_slice HO380.out; subst eo141; have p381 : 0 ≤ (a2 : Int) := of_decide_eq_true (by first | (with_reducible assumption) | assumption); have q381 : a2 < (t378.length : Int) := of_decide_eq_true (by first | (with_reducible assumption) | assumption); obtain ⟨ad381, e381, hx381_0⟩ := Kd.at_bool (Kd.R_reads' HO380.out).2.2 a2 p381 q381; (try rw [← Nbq77.out] at hx381_0); (try rw [← Nbq94.out] at hx381_0); cases e381; replace p381 := eq_true p381; replace q381 := eq_true q381) | ((with_reducible refine gate_callee (f := 46) rfl ?_); refine kE (some 71) Tryz.func46 #[.slice A0 l0.length c0, .int .i64 a1, .int .i64 a2] rfl ?_; (with_reducible refine (spec_faCommon.calls k _ _ l0 a1 a2 t382 _ ?side1 ?side2 A110.out).mono ?_); (case side1 => exact kDb HR0); (case side2 => exact HC0.out); rintro e w142 ⟨v383, rfl, ho0, hb⟩; refine ⟨_, rfl, ?_⟩; have n0_ := Aside0.mk (Kd.R_elder' (kW HO362) (Kd.R_base ho0) hb); have n1_ := Aside0.mk (Kd.R_elder' (kW HO366) (Kd.R_base ho0) hb); have n2_ := Aside0.mk (Kd.R_below (kW HO376) hb); have n3_ := Aside0.mk (Kd.R_below (kW HO380) hb); have n4_ := Aside0.mk (Kd.R_lower (Kd.R_new' (Kd.R_new' ho0 (Kd.R_lt (kW HO362))) (Kd.R_lt (kW HO366))) (below_size kO)); have n5_ := kH HB hb; clear HO362; clear HO366; clear HO376; clear HO380; clear HB; have HO362 := n0_; have HO366 := n1_; have HO376 := n2_; have HO380 := n3_; have HO384 := n4_; have HB := n5_; clear n0_ n1_ n2_ n3_ n4_ n5_; (try clear hb); (try clear ho0); obtain ⟨Ao143, co143, eo143⟩ := Kd.R_slice HO384.out; subst eo143))
                 go_ret
                 exact ⟨kZ, kO⟩
              ·rw [if_neg c93] at H
               exact absurd H (by simp)
             ·rw [if_neg c92] at H
              exact absurd H (by simp)
           ·rw [if_neg c76] at H
            exact absurd H (by simp)
          ·rw [if_neg c75] at H
           exact absurd H (by simp)

/-! ### spec_RelationOf: function 7 -/
def spec_RelationOf.f (k : Nat) (l0 : List (S41)) (a1 : Int) (a2 : Int) : Option (ByteArray × Bool) := (spec_faTwo.f k l0 a1 a2).bind fun t385 => (if t385 = true then ((spec_faRelation.f k l0 a1 a2).bind fun t386 => (some (t386, true))) else (some ((⟨#[]⟩ : ByteArray), false)))
set_option maxHeartbeats 8000000 in
set_option maxRecDepth 100000 in
theorem spec_RelationOf.calls (k : Nat) (A0 : Option Addr) (c0 : Nat) (l0 : List (S41)) (a1 : Int) (a2 : Int) (r1 : ByteArray) (r2 : Bool) (w : World) (hr0 : Kd.C k41 w A0 l0.length l0) (hc0 : l0.length ≤ c0) (h : spec_RelationOf.f k l0 a1 a2 = some (r1, r2)) :
  Calls Tryz.prog 7 #[.slice A0 l0.length c0, .int .i64 a1, .int .i64 a2] w fun e w' => e = .returned (.tuple #[.string r1, .bool r2]) ∧ Below w.heap.size w w' := by
 have HR0 := Aside0.mk hr0
 have HC0 := Aside0.mk hc0
 clear hr0 hc0
 have HB := Aside0.mk (Below.refl w.heap.size w)
 have H : ((spec_faTwo.f k l0 a1 a2).bind fun t385 => (if t385 = true then ((spec_faRelation.f k l0 a1 a2).bind fun t386 => (some (t386, true))) else (some ((⟨#[]⟩ : ByteArray), false)))) = some (r1, r2) := h
 clear h
 replace H := Option.bind_eq_some_iff.mp H
 obtain ⟨t385, A40, H⟩ := H
 have A4 := Aside0.mk A40
 clear A40
 by_cases c5 : t385 = true
 ·subst c5
  rw [if_pos rfl] at H
  replace H := Option.bind_eq_some_iff.mp H
  obtain ⟨t386, A60, H⟩ := H
  have A6 := Aside0.mk A60
  clear A60
  simp only [Option.some.injEq, Prod.mk.injEq] at H
  obtain ⟨rfl, rfl⟩ := H
  go_enter Tryz.func7, Tryz.ntmps7
  go_wp2_with (first | ((with_reducible refine gate_callee (f := 40) rfl ?_); refine kE (some 11) Tryz.func40 #[.slice A0 l0.length c0, .int .i64 a1, .int .i64 a2] rfl ?_; (with_reducible refine (spec_faTwo.calls k _ _ l0 a1 a2 true _ ?side1 ?side2 A4.out).mono ?_); (case side1 => exact kD HR0); (case side2 => exact HC0.out); rintro e w7 ⟨rfl, hb⟩; refine ⟨_, rfl, ?_⟩; replace HB := kH HB hb; (try clear hb)) | ((with_reducible refine gate_callee (f := 41) rfl ?_); refine kE (some 16) Tryz.func41 #[.slice A0 l0.length c0, .int .i64 a1, .int .i64 a2] rfl ?_; (with_reducible refine (spec_faRelation.calls k _ _ l0 a1 a2 t386 _ ?side1 ?side2 A6.out).mono ?_); (case side1 => exact kDb HR0); (case side2 => exact HC0.out); rintro e w8 ⟨rfl, hb⟩; refine ⟨_, rfl, ?_⟩; replace HB := kH HB hb; (try clear hb)))
  go_ret2
  exact ⟨kZ, kO⟩
 ·replace c5 := Bool.eq_false_iff.mpr c5
  subst c5
  rw [if_neg (show ¬ (false = true) by decide)] at H
  simp only [Option.some.injEq, Prod.mk.injEq] at H
  obtain ⟨rfl, rfl⟩ := H
  go_enter Tryz.func7, Tryz.ntmps7
  go_wp2_with (first | ((with_reducible refine gate_callee (f := 40) rfl ?_); refine kE (some 11) Tryz.func40 #[.slice A0 l0.length c0, .int .i64 a1, .int .i64 a2] rfl ?_; (with_reducible refine (spec_faTwo.calls k _ _ l0 a1 a2 false _ ?side1 ?side2 A4.out).mono ?_); (case side1 => exact kD HR0); (case side2 => exact HC0.out); rintro e w9 ⟨rfl, hb⟩; refine ⟨_, rfl, ?_⟩; replace HB := kH HB hb; (try clear hb)))
  go_ret2
  exact ⟨kZ, kO⟩

/-! ### impl_AreSiblings: function 8 -/
def impl_AreSiblings.f (k : Nat) (l0 : List (S41)) (a1 : Int) (a2 : Int) : Option (Bool × Bool) := (impl_hasKin.f k l0 (([a1, a2] : List Int))).bind fun t390 => (if t390 = true then ((impl_areSiblings.f l0 a1 a2).bind fun t391 => (some (t391, true))) else (some (false, false)))
set_option maxHeartbeats 8000000 in
set_option maxRecDepth 100000 in
theorem impl_AreSiblings.calls (k : Nat) (A0 : Option Addr) (c0 : Nat) (l0 : List (S41)) (a1 : Int) (a2 : Int) (r1 : Bool) (r2 : Bool) (w : World) (hr0 : Kd.C k41 w A0 l0.length l0) (hc0 : l0.length ≤ c0) (h : impl_AreSiblings.f k l0 a1 a2 = some (r1, r2)) :
  Calls Tryz.prog 8 #[.slice A0 l0.length c0, .int .i64 a1, .int .i64 a2] w fun e w' => e = .returned (.tuple #[.bool r1, .bool r2]) ∧ Below w.heap.size w w' := by
 have HR0 := Aside0.mk hr0
 have HC0 := Aside0.mk hc0
 clear hr0 hc0
 have HB := Aside0.mk (Below.refl w.heap.size w)
 have H : ((impl_hasKin.f k l0 (([a1, a2] : List Int))).bind fun t390 => (if t390 = true then ((impl_areSiblings.f l0 a1 a2).bind fun t391 => (some (t391, true))) else (some (false, false)))) = some (r1, r2) := h
 clear h
 obtain ⟨y387, hy387⟩ : ∃ y_ : List Int, y_ = (([a1, a2] : List Int)) := ⟨_, rfl⟩
 replace H : ((impl_hasKin.f k l0 y387).bind fun t390 => (if t390 = true then ((impl_areSiblings.f l0 a1 a2).bind fun t391 => (some (t391, true))) else (some (false, false)))) = some (r1, r2) := by first | (rw [hy387]; with_reducible exact H) | (have H2_ := (Option.bind_some _ _).symm.trans H; rw [hy387]; with_reducible exact H2_) | (have H2_ := (Option.bind_some _ _).symm.trans H; with_reducible exact H2_) | with_reducible exact H | (rw [hy387]; exact H) | exact H
 have Ny387 := Aside0.mk hy387
 clear hy387
 replace H := Option.bind_eq_some_iff.mp H
 obtain ⟨t390, A40, H⟩ := H
 have A4 := Aside0.mk A40
 clear A40
 by_cases c5 : t390 = true
 ·subst c5
  rw [if_pos rfl] at H
  replace H := Option.bind_eq_some_iff.mp H
  obtain ⟨t391, A60, H⟩ := H
  have A6 := Aside0.mk A60
  clear A60
  simp only [Option.some.injEq, Prod.mk.injEq] at H
  obtain ⟨rfl, rfl⟩ := H
  go_enter Tryz.func8, Tryz.ntmps8
  go_wp2_with (first | ((with_reducible refine gate_dst (N := 11) rfl ?_); refine Kd.R_lit (Kd.int .i64) _ 3 ?hg (N := 11) ?hd (xs := ([a1, a2] : List Int)) (inner := [.int .i64 a1, .int .i64 a2]) (ok := fun _ => True) (okp := fun _ => True) ?hr ?hp (fun _ hk => hk) trivial (Below.refl _ _) (Nat.le_refl _) (by simp) ?_; (case hd => rfl); (case hg => rfl); (case hr => first | (go_simp; done) | (go_simp; rfl)); (case hp => exact (Reps.one (show Kd.M (Kd.int .i64) _ _ _ a1 [.int .i64 a1] from rfl) (Reps.one (show Kd.M (Kd.int .i64) _ _ _ a2 [.int .i64 a2] from rfl) (Reps.none _ _)))); intro v388 w7 ho8 hb hg_ hnew_; clear hg_ hnew_; (first | rw [← Ny387.out] at ho8 | (simp only [Int.reduceToNat] at ho8; rw [← Ny387.out] at ho8)); have n0_ := Aside0.mk (Kd.R_lower ho8 (below_size kO)); have n1_ := kH HB hb; clear HB; have HO389 := n0_; have HB := n1_; clear n0_ n1_; clear hb ho8; obtain ⟨Ao9, co9, eo9⟩ := Kd.R_slice HO389.out; subst eo9) | ((with_reducible refine gate_callee (f := 31) rfl ?_); refine kE (some 12) Tryz.func31 #[.slice A0 l0.length c0, .slice Ao9 y387.length co9] rfl ?_; (with_reducible refine (impl_hasKin.calls k _ _ l0 _ _ y387 true _ ?side1 ?side2 ?side3 ?side4 A4.out).mono ?_); (case side1 => exact kDb HR0); (case side2 => exact HC0.out); (case side3 => exact kDo HO389); (case side4 => exact (Kd.R_reads' HO389.out).2.1); rintro e w10 ⟨rfl, hb⟩; refine ⟨_, rfl, ?_⟩; have n0_ := Aside0.mk (Kd.R_below (kW HO389) hb); have n1_ := kH HB hb; clear HO389; clear HB; have HO389 := n0_; have HB := n1_; clear n0_ n1_; (try clear hb)) | ((with_reducible refine gate_callee (f := 33) rfl ?_); refine kE (some 17) Tryz.func33 #[.slice A0 l0.length c0, .int .i64 a1, .int .i64 a2] rfl ?_; (with_reducible refine (impl_areSiblings.calls _ _ l0 a1 a2 t391 _ ?side1 ?side2 A6.out).mono ?_); (case side1 => exact kDb HR0); (case side2 => exact HC0.out); rintro e w11 ⟨rfl, hb⟩; refine ⟨_, rfl, ?_⟩; have n0_ := Aside0.mk (Kd.R_below (kW HO389) hb); have n1_ := kH HB hb; clear HO389; clear HB; have HO389 := n0_; have HB := n1_; clear n0_ n1_; (try clear hb)))
  go_ret2
  exact ⟨kZ, kO⟩
 ·replace c5 := Bool.eq_false_iff.mpr c5
  subst c5
  rw [if_neg (show ¬ (false = true) by decide)] at H
  simp only [Option.some.injEq, Prod.mk.injEq] at H
  obtain ⟨rfl, rfl⟩ := H
  go_enter Tryz.func8, Tryz.ntmps8
  go_wp2_with (first | ((with_reducible refine gate_dst (N := 11) rfl ?_); refine Kd.R_lit (Kd.int .i64) _ 3 ?hg (N := 11) ?hd (xs := ([a1, a2] : List Int)) (inner := [.int .i64 a1, .int .i64 a2]) (ok := fun _ => True) (okp := fun _ => True) ?hr ?hp (fun _ hk => hk) trivial (Below.refl _ _) (Nat.le_refl _) (by simp) ?_; (case hd => rfl); (case hg => rfl); (case hr => first | (go_simp; done) | (go_simp; rfl)); (case hp => exact (Reps.one (show Kd.M (Kd.int .i64) _ _ _ a1 [.int .i64 a1] from rfl) (Reps.one (show Kd.M (Kd.int .i64) _ _ _ a2 [.int .i64 a2] from rfl) (Reps.none _ _)))); intro v388 w12 ho13 hb hg_ hnew_; clear hg_ hnew_; (first | rw [← Ny387.out] at ho13 | (simp only [Int.reduceToNat] at ho13; rw [← Ny387.out] at ho13)); have n0_ := Aside0.mk (Kd.R_lower ho13 (below_size kO)); have n1_ := kH HB hb; clear HB; have HO389 := n0_; have HB := n1_; clear n0_ n1_; clear hb ho13; obtain ⟨Ao14, co14, eo14⟩ := Kd.R_slice HO389.out; subst eo14) | ((with_reducible refine gate_callee (f := 31) rfl ?_); refine kE (some 12) Tryz.func31 #[.slice A0 l0.length c0, .slice Ao14 y387.length co14] rfl ?_; (with_reducible refine (impl_hasKin.calls k _ _ l0 _ _ y387 false _ ?side1 ?side2 ?side3 ?side4 A4.out).mono ?_); (case side1 => exact kDb HR0); (case side2 => exact HC0.out); (case side3 => exact kDo HO389); (case side4 => exact (Kd.R_reads' HO389.out).2.1); rintro e w15 ⟨rfl, hb⟩; refine ⟨_, rfl, ?_⟩; have n0_ := Aside0.mk (Kd.R_below (kW HO389) hb); have n1_ := kH HB hb; clear HO389; clear HB; have HO389 := n0_; have HB := n1_; clear n0_ n1_; (try clear hb)))
  go_ret2
  exact ⟨kZ, kO⟩

/-! ### spec_AreSiblings: function 9 -/
def spec_AreSiblings.f (k : Nat) (l0 : List (S41)) (a1 : Int) (a2 : Int) : Option (Bool × Bool) := (spec_faTwo.f k l0 a1 a2).bind fun t392 => (if t392 = true then ((spec_faSiblings.f k l0 a1 a2).bind fun t393 => (some (t393, true))) else (some (false, false)))
set_option maxHeartbeats 8000000 in
set_option maxRecDepth 100000 in
theorem spec_AreSiblings.calls (k : Nat) (A0 : Option Addr) (c0 : Nat) (l0 : List (S41)) (a1 : Int) (a2 : Int) (r1 : Bool) (r2 : Bool) (w : World) (hr0 : Kd.C k41 w A0 l0.length l0) (hc0 : l0.length ≤ c0) (h : spec_AreSiblings.f k l0 a1 a2 = some (r1, r2)) :
  Calls Tryz.prog 9 #[.slice A0 l0.length c0, .int .i64 a1, .int .i64 a2] w fun e w' => e = .returned (.tuple #[.bool r1, .bool r2]) ∧ Below w.heap.size w w' := by
 have HR0 := Aside0.mk hr0
 have HC0 := Aside0.mk hc0
 clear hr0 hc0
 have HB := Aside0.mk (Below.refl w.heap.size w)
 have H : ((spec_faTwo.f k l0 a1 a2).bind fun t392 => (if t392 = true then ((spec_faSiblings.f k l0 a1 a2).bind fun t393 => (some (t393, true))) else (some (false, false)))) = some (r1, r2) := h
 clear h
 replace H := Option.bind_eq_some_iff.mp H
 obtain ⟨t392, A40, H⟩ := H
 have A4 := Aside0.mk A40
 clear A40
 by_cases c5 : t392 = true
 ·subst c5
  rw [if_pos rfl] at H
  replace H := Option.bind_eq_some_iff.mp H
  obtain ⟨t393, A60, H⟩ := H
  have A6 := Aside0.mk A60
  clear A60
  simp only [Option.some.injEq, Prod.mk.injEq] at H
  obtain ⟨rfl, rfl⟩ := H
  go_enter Tryz.func9, Tryz.ntmps9
  go_wp2_with (first | ((with_reducible refine gate_callee (f := 40) rfl ?_); refine kE (some 11) Tryz.func40 #[.slice A0 l0.length c0, .int .i64 a1, .int .i64 a2] rfl ?_; (with_reducible refine (spec_faTwo.calls k _ _ l0 a1 a2 true _ ?side1 ?side2 A4.out).mono ?_); (case side1 => exact kD HR0); (case side2 => exact HC0.out); rintro e w7 ⟨rfl, hb⟩; refine ⟨_, rfl, ?_⟩; replace HB := kH HB hb; (try clear hb)) | ((with_reducible refine gate_callee (f := 42) rfl ?_); refine kE (some 16) Tryz.func42 #[.slice A0 l0.length c0, .int .i64 a1, .int .i64 a2] rfl ?_; (with_reducible refine (spec_faSiblings.calls k _ _ l0 a1 a2 t393 _ ?side1 ?side2 A6.out).mono ?_); (case side1 => exact kDb HR0); (case side2 => exact HC0.out); rintro e w8 ⟨rfl, hb⟩; refine ⟨_, rfl, ?_⟩; replace HB := kH HB hb; (try clear hb)))
  go_ret2
  exact ⟨kZ, kO⟩
 ·replace c5 := Bool.eq_false_iff.mpr c5
  subst c5
  rw [if_neg (show ¬ (false = true) by decide)] at H
  simp only [Option.some.injEq, Prod.mk.injEq] at H
  obtain ⟨rfl, rfl⟩ := H
  go_enter Tryz.func9, Tryz.ntmps9
  go_wp2_with (first | ((with_reducible refine gate_callee (f := 40) rfl ?_); refine kE (some 11) Tryz.func40 #[.slice A0 l0.length c0, .int .i64 a1, .int .i64 a2] rfl ?_; (with_reducible refine (spec_faTwo.calls k _ _ l0 a1 a2 false _ ?side1 ?side2 A4.out).mono ?_); (case side1 => exact kD HR0); (case side2 => exact HC0.out); rintro e w9 ⟨rfl, hb⟩; refine ⟨_, rfl, ?_⟩; replace HB := kH HB hb; (try clear hb)))
  go_ret2
  exact ⟨kZ, kO⟩

/-! ### impl_AreHalf: function 10 -/
def impl_AreHalf.f (k : Nat) (l0 : List (S41)) (a1 : Int) (a2 : Int) : Option (Bool × Bool) := (impl_hasKin.f k l0 (([a1, a2] : List Int))).bind fun t397 => (if t397 = true then ((impl_inCommon.f l0 a1 a2).bind fun t398 => (some ((t398 == 1), true))) else (some (false, false)))
set_option maxHeartbeats 8000000 in
set_option maxRecDepth 100000 in
theorem impl_AreHalf.calls (k : Nat) (A0 : Option Addr) (c0 : Nat) (l0 : List (S41)) (a1 : Int) (a2 : Int) (r1 : Bool) (r2 : Bool) (w : World) (hr0 : Kd.C k41 w A0 l0.length l0) (hc0 : l0.length ≤ c0) (h : impl_AreHalf.f k l0 a1 a2 = some (r1, r2)) :
  Calls Tryz.prog 10 #[.slice A0 l0.length c0, .int .i64 a1, .int .i64 a2] w fun e w' => e = .returned (.tuple #[.bool r1, .bool r2]) ∧ Below w.heap.size w w' := by
 have HR0 := Aside0.mk hr0
 have HC0 := Aside0.mk hc0
 clear hr0 hc0
 have HB := Aside0.mk (Below.refl w.heap.size w)
 have H : ((impl_hasKin.f k l0 (([a1, a2] : List Int))).bind fun t397 => (if t397 = true then ((impl_inCommon.f l0 a1 a2).bind fun t398 => (some ((t398 == 1), true))) else (some (false, false)))) = some (r1, r2) := h
 clear h
 obtain ⟨y394, hy394⟩ : ∃ y_ : List Int, y_ = (([a1, a2] : List Int)) := ⟨_, rfl⟩
 replace H : ((impl_hasKin.f k l0 y394).bind fun t397 => (if t397 = true then ((impl_inCommon.f l0 a1 a2).bind fun t398 => (some ((t398 == 1), true))) else (some (false, false)))) = some (r1, r2) := by first | (rw [hy394]; with_reducible exact H) | (have H2_ := (Option.bind_some _ _).symm.trans H; rw [hy394]; with_reducible exact H2_) | (have H2_ := (Option.bind_some _ _).symm.trans H; with_reducible exact H2_) | with_reducible exact H | (rw [hy394]; exact H) | exact H
 have Ny394 := Aside0.mk hy394
 clear hy394
 replace H := Option.bind_eq_some_iff.mp H
 obtain ⟨t397, A40, H⟩ := H
 have A4 := Aside0.mk A40
 clear A40
 by_cases c5 : t397 = true
 ·subst c5
  rw [if_pos rfl] at H
  replace H := Option.bind_eq_some_iff.mp H
  obtain ⟨t398, A60, H⟩ := H
  have A6 := Aside0.mk A60
  clear A60
  simp only [Option.some.injEq, Prod.mk.injEq] at H
  obtain ⟨rfl, rfl⟩ := H
  go_enter Tryz.func10, Tryz.ntmps10
  go_wp2_with (first | ((with_reducible refine gate_dst (N := 11) rfl ?_); refine Kd.R_lit (Kd.int .i64) _ 3 ?hg (N := 11) ?hd (xs := ([a1, a2] : List Int)) (inner := [.int .i64 a1, .int .i64 a2]) (ok := fun _ => True) (okp := fun _ => True) ?hr ?hp (fun _ hk => hk) trivial (Below.refl _ _) (Nat.le_refl _) (by simp) ?_; (case hd => rfl); (case hg => rfl); (case hr => first | (go_simp; done) | (go_simp; rfl)); (case hp => exact (Reps.one (show Kd.M (Kd.int .i64) _ _ _ a1 [.int .i64 a1] from rfl) (Reps.one (show Kd.M (Kd.int .i64) _ _ _ a2 [.int .i64 a2] from rfl) (Reps.none _ _)))); intro v395 w7 ho8 hb hg_ hnew_; clear hg_ hnew_; (first | rw [← Ny394.out] at ho8 | (simp only [Int.reduceToNat] at ho8; rw [← Ny394.out] at ho8)); have n0_ := Aside0.mk (Kd.R_lower ho8 (below_size kO)); have n1_ := kH HB hb; clear HB; have HO396 := n0_; have HB := n1_; clear n0_ n1_; clear hb ho8; obtain ⟨Ao9, co9, eo9⟩ := Kd.R_slice HO396.out; subst eo9) | ((with_reducible refine gate_callee (f := 31) rfl ?_); refine kE (some 12) Tryz.func31 #[.slice A0 l0.length c0, .slice Ao9 y394.length co9] rfl ?_; (with_reducible refine (impl_hasKin.calls k _ _ l0 _ _ y394 true _ ?side1 ?side2 ?side3 ?side4 A4.out).mono ?_); (case side1 => exact kDb HR0); (case side2 => exact HC0.out); (case side3 => exact kDo HO396); (case side4 => exact (Kd.R_reads' HO396.out).2.1); rintro e w10 ⟨rfl, hb⟩; refine ⟨_, rfl, ?_⟩; have n0_ := Aside0.mk (Kd.R_below (kW HO396) hb); have n1_ := kH HB hb; clear HO396; clear HB; have HO396 := n0_; have HB := n1_; clear n0_ n1_; (try clear hb)) | ((with_reducible refine gate_callee (f := 43) rfl ?_); refine kE (some 17) Tryz.func43 #[.slice A0 l0.length c0, .int .i64 a1, .int .i64 a2] rfl ?_; (with_reducible refine (impl_inCommon.calls _ _ l0 a1 a2 t398 _ ?side1 ?side2 A6.out).mono ?_); (case side1 => exact kDb HR0); (case side2 => exact HC0.out); rintro e w11 ⟨rfl, hb⟩; refine ⟨_, rfl, ?_⟩; have n0_ := Aside0.mk (Kd.R_below (kW HO396) hb); have n1_ := kH HB hb; clear HO396; clear HB; have HO396 := n0_; have HB := n1_; clear n0_ n1_; (try clear hb)))
  go_ret2
  exact ⟨kZ, kO⟩
 ·replace c5 := Bool.eq_false_iff.mpr c5
  subst c5
  rw [if_neg (show ¬ (false = true) by decide)] at H
  simp only [Option.some.injEq, Prod.mk.injEq] at H
  obtain ⟨rfl, rfl⟩ := H
  go_enter Tryz.func10, Tryz.ntmps10
  go_wp2_with (first | ((with_reducible refine gate_dst (N := 11) rfl ?_); refine Kd.R_lit (Kd.int .i64) _ 3 ?hg (N := 11) ?hd (xs := ([a1, a2] : List Int)) (inner := [.int .i64 a1, .int .i64 a2]) (ok := fun _ => True) (okp := fun _ => True) ?hr ?hp (fun _ hk => hk) trivial (Below.refl _ _) (Nat.le_refl _) (by simp) ?_; (case hd => rfl); (case hg => rfl); (case hr => first | (go_simp; done) | (go_simp; rfl)); (case hp => exact (Reps.one (show Kd.M (Kd.int .i64) _ _ _ a1 [.int .i64 a1] from rfl) (Reps.one (show Kd.M (Kd.int .i64) _ _ _ a2 [.int .i64 a2] from rfl) (Reps.none _ _)))); intro v395 w12 ho13 hb hg_ hnew_; clear hg_ hnew_; (first | rw [← Ny394.out] at ho13 | (simp only [Int.reduceToNat] at ho13; rw [← Ny394.out] at ho13)); have n0_ := Aside0.mk (Kd.R_lower ho13 (below_size kO)); have n1_ := kH HB hb; clear HB; have HO396 := n0_; have HB := n1_; clear n0_ n1_; clear hb ho13; obtain ⟨Ao14, co14, eo14⟩ := Kd.R_slice HO396.out; subst eo14) | ((with_reducible refine gate_callee (f := 31) rfl ?_); refine kE (some 12) Tryz.func31 #[.slice A0 l0.length c0, .slice Ao14 y394.length co14] rfl ?_; (with_reducible refine (impl_hasKin.calls k _ _ l0 _ _ y394 false _ ?side1 ?side2 ?side3 ?side4 A4.out).mono ?_); (case side1 => exact kDb HR0); (case side2 => exact HC0.out); (case side3 => exact kDo HO396); (case side4 => exact (Kd.R_reads' HO396.out).2.1); rintro e w15 ⟨rfl, hb⟩; refine ⟨_, rfl, ?_⟩; have n0_ := Aside0.mk (Kd.R_below (kW HO396) hb); have n1_ := kH HB hb; clear HO396; clear HB; have HO396 := n0_; have HB := n1_; clear n0_ n1_; (try clear hb)))
  go_ret2
  exact ⟨kZ, kO⟩

/-! ### spec_AreHalf: function 11 -/
def spec_AreHalf.f (k : Nat) (l0 : List (S41)) (a1 : Int) (a2 : Int) : Option (Bool × Bool) := (spec_faTwo.f k l0 a1 a2).bind fun t399 => (if t399 = true then (if a1 = a2 then (some (false, true)) else ((spec_faShared.f k l0 a1 a2).bind fun t400 => (some ((t400 == 1), true)))) else (some (false, false)))
set_option maxHeartbeats 8000000 in
set_option maxRecDepth 100000 in
theorem spec_AreHalf.calls (k : Nat) (A0 : Option Addr) (c0 : Nat) (l0 : List (S41)) (a1 : Int) (a2 : Int) (r1 : Bool) (r2 : Bool) (w : World) (hr0 : Kd.C k41 w A0 l0.length l0) (hc0 : l0.length ≤ c0) (h : spec_AreHalf.f k l0 a1 a2 = some (r1, r2)) :
  Calls Tryz.prog 11 #[.slice A0 l0.length c0, .int .i64 a1, .int .i64 a2] w fun e w' => e = .returned (.tuple #[.bool r1, .bool r2]) ∧ Below w.heap.size w w' := by
 have HR0 := Aside0.mk hr0
 have HC0 := Aside0.mk hc0
 clear hr0 hc0
 have HB := Aside0.mk (Below.refl w.heap.size w)
 have H : ((spec_faTwo.f k l0 a1 a2).bind fun t399 => (if t399 = true then (if a1 = a2 then (some (false, true)) else ((spec_faShared.f k l0 a1 a2).bind fun t400 => (some ((t400 == 1), true)))) else (some (false, false)))) = some (r1, r2) := h
 clear h
 replace H := Option.bind_eq_some_iff.mp H
 obtain ⟨t399, A40, H⟩ := H
 have A4 := Aside0.mk A40
 clear A40
 by_cases c5 : t399 = true
 ·subst c5
  rw [if_pos rfl] at H
  by_cases c6 : a1 = a2
  ·rw [if_pos c6] at H
   have c6b0 : (a1 == a2) = true := beq_iff_eq.mpr c6
   have c6b1 : (a1 != a2) = false := bne_eq_false_iff_eq.mpr c6
   clear c6
   simp only [Option.some.injEq, Prod.mk.injEq] at H
   obtain ⟨rfl, rfl⟩ := H
   go_enter Tryz.func11, Tryz.ntmps11
   go_wp2_with (first | ((with_reducible refine gate_callee (f := 40) rfl ?_); refine kE (some 11) Tryz.func40 #[.slice A0 l0.length c0, .int .i64 a1, .int .i64 a2] rfl ?_; (with_reducible refine (spec_faTwo.calls k _ _ l0 a1 a2 true _ ?side1 ?side2 A4.out).mono ?_); (case side1 => exact kD HR0); (case side2 => exact HC0.out); rintro e w7 ⟨rfl, hb⟩; refine ⟨_, rfl, ?_⟩; replace HB := kH HB hb; (try clear hb)))
   go_ret2
   exact ⟨kZ, kO⟩
  ·rw [if_neg c6] at H
   have c6b0 : (a1 == a2) = false := beq_eq_false_iff_ne.mpr c6
   have c6b1 : (a1 != a2) = true := bne_iff_ne.mpr c6
   replace H := Option.bind_eq_some_iff.mp H
   obtain ⟨t400, A80, H⟩ := H
   have A8 := Aside0.mk A80
   clear A80
   simp only [Option.some.injEq, Prod.mk.injEq] at H
   obtain ⟨rfl, rfl⟩ := H
   go_enter Tryz.func11, Tryz.ntmps11
   go_wp2_with (first | ((with_reducible refine gate_callee (f := 40) rfl ?_); refine kE (some 11) Tryz.func40 #[.slice A0 l0.length c0, .int .i64 a1, .int .i64 a2] rfl ?_; (with_reducible refine (spec_faTwo.calls k _ _ l0 a1 a2 true _ ?side1 ?side2 A4.out).mono ?_); (case side1 => exact kD HR0); (case side2 => exact HC0.out); rintro e w9 ⟨rfl, hb⟩; refine ⟨_, rfl, ?_⟩; replace HB := kH HB hb; (try clear hb)) | (go_at_call 44; (with_reducible refine (spec_faShared.calls k _ _ l0 a1 a2 t400 _ ?side1 ?side2 A8.out).mono ?_); (case side1 => exact kDb HR0); (case side2 => exact HC0.out); rintro e w10 ⟨rfl, hb⟩; replace HB := kH HB hb; (try clear hb)))
   go_ret2
   exact ⟨kZ, kO⟩
 ·replace c5 := Bool.eq_false_iff.mpr c5
  subst c5
  rw [if_neg (show ¬ (false = true) by decide)] at H
  simp only [Option.some.injEq, Prod.mk.injEq] at H
  obtain ⟨rfl, rfl⟩ := H
  go_enter Tryz.func11, Tryz.ntmps11
  go_wp2_with (first | ((with_reducible refine gate_callee (f := 40) rfl ?_); refine kE (some 11) Tryz.func40 #[.slice A0 l0.length c0, .int .i64 a1, .int .i64 a2] rfl ?_; (with_reducible refine (spec_faTwo.calls k _ _ l0 a1 a2 false _ ?side1 ?side2 A4.out).mono ?_); (case side1 => exact kD HR0); (case side2 => exact HC0.out); rintro e w11 ⟨rfl, hb⟩; refine ⟨_, rfl, ?_⟩; replace HB := kH HB hb; (try clear hb)))
  go_ret2
  exact ⟨kZ, kO⟩

end Go.Proofs.YtllihaahppelhaaGreat.P
namespace Go.Proofs.YtllihaahppelhaaGreat.P
open Go.RowKit Go.Proofs.YtllihaahppelhaaGreatW.PrintWords Go.Proofs.YtllihaahppelhaaGreatW.PrintLast Go.Proofs.YtllihaahppelhaaGreatW.PrintMore
attribute [local go_sem] max2_int min2_int max_two min_two max_three min_three max_four min_four   -- for this text's walks alone
set_option linter.unusedVariables false
set_option linter.unusedSimpArgs false

/-! ### impl_AreCousins: function 12 -/
def impl_AreCousins.f (k : Nat) (l0 : List (S41)) (a1 : Int) (a2 : Int) : Option (Bool × Bool) := (impl_hasKin.f k l0 (([a1, a2] : List Int))).bind fun t404 => (if t404 = true then ((impl_areCousins.f l0 a1 a2).bind fun t405 => (some (t405, true))) else (some (false, false)))
set_option maxHeartbeats 8000000 in
set_option maxRecDepth 100000 in
theorem impl_AreCousins.calls (k : Nat) (A0 : Option Addr) (c0 : Nat) (l0 : List (S41)) (a1 : Int) (a2 : Int) (r1 : Bool) (r2 : Bool) (w : World) (hr0 : Kd.C k41 w A0 l0.length l0) (hc0 : l0.length ≤ c0) (h : impl_AreCousins.f k l0 a1 a2 = some (r1, r2)) :
  Calls Tryz.prog 12 #[.slice A0 l0.length c0, .int .i64 a1, .int .i64 a2] w fun e w' => e = .returned (.tuple #[.bool r1, .bool r2]) ∧ Below w.heap.size w w' := by
 have HR0 := Aside0.mk hr0
 have HC0 := Aside0.mk hc0
 clear hr0 hc0
 have HB := Aside0.mk (Below.refl w.heap.size w)
 have H : ((impl_hasKin.f k l0 (([a1, a2] : List Int))).bind fun t404 => (if t404 = true then ((impl_areCousins.f l0 a1 a2).bind fun t405 => (some (t405, true))) else (some (false, false)))) = some (r1, r2) := h
 clear h
 obtain ⟨y401, hy401⟩ : ∃ y_ : List Int, y_ = (([a1, a2] : List Int)) := ⟨_, rfl⟩
 replace H : ((impl_hasKin.f k l0 y401).bind fun t404 => (if t404 = true then ((impl_areCousins.f l0 a1 a2).bind fun t405 => (some (t405, true))) else (some (false, false)))) = some (r1, r2) := by first | (rw [hy401]; with_reducible exact H) | (have H2_ := (Option.bind_some _ _).symm.trans H; rw [hy401]; with_reducible exact H2_) | (have H2_ := (Option.bind_some _ _).symm.trans H; with_reducible exact H2_) | with_reducible exact H | (rw [hy401]; exact H) | exact H
 have Ny401 := Aside0.mk hy401
 clear hy401
 replace H := Option.bind_eq_some_iff.mp H
 obtain ⟨t404, A40, H⟩ := H
 have A4 := Aside0.mk A40
 clear A40
 by_cases c5 : t404 = true
 ·subst c5
  rw [if_pos rfl] at H
  replace H := Option.bind_eq_some_iff.mp H
  obtain ⟨t405, A60, H⟩ := H
  have A6 := Aside0.mk A60
  clear A60
  simp only [Option.some.injEq, Prod.mk.injEq] at H
  obtain ⟨rfl, rfl⟩ := H
  go_enter Tryz.func12, Tryz.ntmps12
  go_wp2_with (first | ((with_reducible refine gate_dst (N := 11) rfl ?_); refine Kd.R_lit (Kd.int .i64) _ 3 ?hg (N := 11) ?hd (xs := ([a1, a2] : List Int)) (inner := [.int .i64 a1, .int .i64 a2]) (ok := fun _ => True) (okp := fun _ => True) ?hr ?hp (fun _ hk => hk) trivial (Below.refl _ _) (Nat.le_refl _) (by simp) ?_; (case hd => rfl); (case hg => rfl); (case hr => first | (go_simp; done) | (go_simp; rfl)); (case hp => exact (Reps.one (show Kd.M (Kd.int .i64) _ _ _ a1 [.int .i64 a1] from rfl) (Reps.one (show Kd.M (Kd.int .i64) _ _ _ a2 [.int .i64 a2] from rfl) (Reps.none _ _)))); intro v402 w7 ho8 hb hg_ hnew_; clear hg_ hnew_; (first | rw [← Ny401.out] at ho8 | (simp only [Int.reduceToNat] at ho8; rw [← Ny401.out] at ho8)); have n0_ := Aside0.mk (Kd.R_lower ho8 (below_size kO)); have n1_ := kH HB hb; clear HB; have HO403 := n0_; have HB := n1_; clear n0_ n1_; clear hb ho8; obtain ⟨Ao9, co9, eo9⟩ := Kd.R_slice HO403.out; subst eo9) | ((with_reducible refine gate_callee (f := 31) rfl ?_); refine kE (some 12) Tryz.func31 #[.slice A0 l0.length c0, .slice Ao9 y401.length co9] rfl ?_; (with_reducible refine (impl_hasKin.calls k _ _ l0 _ _ y401 true _ ?side1 ?side2 ?side3 ?side4 A4.out).mono ?_); (case side1 => exact kDb HR0); (case side2 => exact HC0.out); (case side3 => exact kDo HO403); (case side4 => exact (Kd.R_reads' HO403.out).2.1); rintro e w10 ⟨rfl, hb⟩; refine ⟨_, rfl, ?_⟩; have n0_ := Aside0.mk (Kd.R_below (kW HO403) hb); have n1_ := kH HB hb; clear HO403; clear HB; have HO403 := n0_; have HB := n1_; clear n0_ n1_; (try clear hb)) | ((with_reducible refine gate_callee (f := 36) rfl ?_); refine kE (some 17) Tryz.func36 #[.slice A0 l0.length c0, .int .i64 a1, .int .i64 a2] rfl ?_; (with_reducible refine (impl_areCousins.calls _ _ l0 a1 a2 t405 _ ?side1 ?side2 A6.out).mono ?_); (case side1 => exact kDb HR0); (case side2 => exact HC0.out); rintro e w11 ⟨rfl, hb⟩; refine ⟨_, rfl, ?_⟩; have n0_ := Aside0.mk (Kd.R_below (kW HO403) hb); have n1_ := kH HB hb; clear HO403; clear HB; have HO403 := n0_; have HB := n1_; clear n0_ n1_; (try clear hb)))
  go_ret2
  exact ⟨kZ, kO⟩
 ·replace c5 := Bool.eq_false_iff.mpr c5
  subst c5
  rw [if_neg (show ¬ (false = true) by decide)] at H
  simp only [Option.some.injEq, Prod.mk.injEq] at H
  obtain ⟨rfl, rfl⟩ := H
  go_enter Tryz.func12, Tryz.ntmps12
  go_wp2_with (first | ((with_reducible refine gate_dst (N := 11) rfl ?_); refine Kd.R_lit (Kd.int .i64) _ 3 ?hg (N := 11) ?hd (xs := ([a1, a2] : List Int)) (inner := [.int .i64 a1, .int .i64 a2]) (ok := fun _ => True) (okp := fun _ => True) ?hr ?hp (fun _ hk => hk) trivial (Below.refl _ _) (Nat.le_refl _) (by simp) ?_; (case hd => rfl); (case hg => rfl); (case hr => first | (go_simp; done) | (go_simp; rfl)); (case hp => exact (Reps.one (show Kd.M (Kd.int .i64) _ _ _ a1 [.int .i64 a1] from rfl) (Reps.one (show Kd.M (Kd.int .i64) _ _ _ a2 [.int .i64 a2] from rfl) (Reps.none _ _)))); intro v402 w12 ho13 hb hg_ hnew_; clear hg_ hnew_; (first | rw [← Ny401.out] at ho13 | (simp only [Int.reduceToNat] at ho13; rw [← Ny401.out] at ho13)); have n0_ := Aside0.mk (Kd.R_lower ho13 (below_size kO)); have n1_ := kH HB hb; clear HB; have HO403 := n0_; have HB := n1_; clear n0_ n1_; clear hb ho13; obtain ⟨Ao14, co14, eo14⟩ := Kd.R_slice HO403.out; subst eo14) | ((with_reducible refine gate_callee (f := 31) rfl ?_); refine kE (some 12) Tryz.func31 #[.slice A0 l0.length c0, .slice Ao14 y401.length co14] rfl ?_; (with_reducible refine (impl_hasKin.calls k _ _ l0 _ _ y401 false _ ?side1 ?side2 ?side3 ?side4 A4.out).mono ?_); (case side1 => exact kDb HR0); (case side2 => exact HC0.out); (case side3 => exact kDo HO403); (case side4 => exact (Kd.R_reads' HO403.out).2.1); rintro e w15 ⟨rfl, hb⟩; refine ⟨_, rfl, ?_⟩; have n0_ := Aside0.mk (Kd.R_below (kW HO403) hb); have n1_ := kH HB hb; clear HO403; clear HB; have HO403 := n0_; have HB := n1_; clear n0_ n1_; (try clear hb)))
  go_ret2
  exact ⟨kZ, kO⟩

end Go.Proofs.YtllihaahppelhaaGreat.P
namespace Go.Proofs.YtllihaahppelhaaGreat.P
open Go.RowKit Go.Proofs.YtllihaahppelhaaGreatW.PrintWords Go.Proofs.YtllihaahppelhaaGreatW.PrintLast Go.Proofs.YtllihaahppelhaaGreatW.PrintMore
attribute [local go_sem] max2_int min2_int max_two min_two max_three min_three max_four min_four   -- for this text's walks alone
set_option linter.unusedVariables false
set_option linter.unusedSimpArgs false

/-! ### spec_AreCousins: function 13 -/
def spec_AreCousins.f (k : Nat) (l0 : List (S41)) (a1 : Int) (a2 : Int) : Option (Bool × Bool) := (spec_faTwo.f k l0 a1 a2).bind fun t406 => (if t406 = true then ((spec_faCousins.f k l0 a1 a2).bind fun t407 => (some (t407, true))) else (some (false, false)))
set_option maxHeartbeats 8000000 in
set_option maxRecDepth 100000 in
theorem spec_AreCousins.calls (k : Nat) (A0 : Option Addr) (c0 : Nat) (l0 : List (S41)) (a1 : Int) (a2 : Int) (r1 : Bool) (r2 : Bool) (w : World) (hr0 : Kd.C k41 w A0 l0.length l0) (hc0 : l0.length ≤ c0) (h : spec_AreCousins.f k l0 a1 a2 = some (r1, r2)) :
  Calls Tryz.prog 13 #[.slice A0 l0.length c0, .int .i64 a1, .int .i64 a2] w fun e w' => e = .returned (.tuple #[.bool r1, .bool r2]) ∧ Below w.heap.size w w' := by
 have HR0 := Aside0.mk hr0
 have HC0 := Aside0.mk hc0
 clear hr0 hc0
 have HB := Aside0.mk (Below.refl w.heap.size w)
 have H : ((spec_faTwo.f k l0 a1 a2).bind fun t406 => (if t406 = true then ((spec_faCousins.f k l0 a1 a2).bind fun t407 => (some (t407, true))) else (some (false, false)))) = some (r1, r2) := h
 clear h
 replace H := Option.bind_eq_some_iff.mp H
 obtain ⟨t406, A40, H⟩ := H
 have A4 := Aside0.mk A40
 clear A40
 by_cases c5 : t406 = true
 ·subst c5
  rw [if_pos rfl] at H
  replace H := Option.bind_eq_some_iff.mp H
  obtain ⟨t407, A60, H⟩ := H
  have A6 := Aside0.mk A60
  clear A60
  simp only [Option.some.injEq, Prod.mk.injEq] at H
  obtain ⟨rfl, rfl⟩ := H
  go_enter Tryz.func13, Tryz.ntmps13
  go_wp2_with (first | ((with_reducible refine gate_callee (f := 40) rfl ?_); refine kE (some 11) Tryz.func40 #[.slice A0 l0.length c0, .int .i64 a1, .int .i64 a2] rfl ?_; (with_reducible refine (spec_faTwo.calls k _ _ l0 a1 a2 true _ ?side1 ?side2 A4.out).mono ?_); (case side1 => exact kD HR0); (case side2 => exact HC0.out); rintro e w7 ⟨rfl, hb⟩; refine ⟨_, rfl, ?_⟩; replace HB := kH HB hb; (try clear hb)) | ((with_reducible refine gate_callee (f := 45) rfl ?_); refine kE (some 16) Tryz.func45 #[.slice A0 l0.length c0, .int .i64 a1, .int .i64 a2] rfl ?_; (with_reducible refine (spec_faCousins.calls k _ _ l0 a1 a2 t407 _ ?side1 ?side2 A6.out).mono ?_); (case side1 => exact kDb HR0); (case side2 => exact HC0.out); rintro e w8 ⟨rfl, hb⟩; refine ⟨_, rfl, ?_⟩; replace HB := kH HB hb; (try clear hb)))
  go_ret2
  exact ⟨kZ, kO⟩
 ·replace c5 := Bool.eq_false_iff.mpr c5
  subst c5
  rw [if_neg (show ¬ (false = true) by decide)] at H
  simp only [Option.some.injEq, Prod.mk.injEq] at H
  obtain ⟨rfl, rfl⟩ := H
  go_enter Tryz.func13, Tryz.ntmps13
  go_wp2_with (first | ((with_reducible refine gate_callee (f := 40) rfl ?_); refine kE (some 11) Tryz.func40 #[.slice A0 l0.length c0, .int .i64 a1, .int .i64 a2] rfl ?_; (with_reducible refine (spec_faTwo.calls k _ _ l0 a1 a2 false _ ?side1 ?side2 A4.out).mono ?_); (case side1 => exact kD HR0); (case side2 => exact HC0.out); rintro e w9 ⟨rfl, hb⟩; refine ⟨_, rfl, ?_⟩; replace HB := kH HB hb; (try clear hb)))
  go_ret2
  exact ⟨kZ, kO⟩

/-! ### impl_CommonAncestors: function 14 -/
def impl_CommonAncestors.f (k : Nat) (l0 : List (S41)) (a1 : Int) (a2 : Int) : Option (List Int × Bool) := (impl_hasKin.f k l0 (([a1, a2] : List Int))).bind fun t411 => (if t411 = true then ((impl_commonAncestors.f k l0 a1 a2).bind fun t412 => (some (t412, true))) else (some (([] : List Int), false)))
set_option maxHeartbeats 8000000 in
set_option maxRecDepth 100000 in
theorem impl_CommonAncestors.calls (k : Nat) (A0 : Option Addr) (c0 : Nat) (l0 : List (S41)) (a1 : Int) (a2 : Int) (r1 : List Int) (r2 : Bool) (w : World) (hr0 : Kd.C k41 w A0 l0.length l0) (hc0 : l0.length ≤ c0) (h : impl_CommonAncestors.f k l0 a1 a2 = some (r1, r2)) :
  Calls Tryz.prog 14 #[.slice A0 l0.length c0, .int .i64 a1, .int .i64 a2] w fun e w' => ∃ v0_ : Value, e = .returned (.tuple #[v0_, .bool r2]) ∧ Kd.R (Kd.int .i64) 3 w' w.heap.size (fun _ => True) v0_ r1 ∧ Below w.heap.size w w' := by
 have HR0 := Aside0.mk hr0
 have HC0 := Aside0.mk hc0
 clear hr0 hc0
 have HB := Aside0.mk (Below.refl w.heap.size w)
 have H : ((impl_hasKin.f k l0 (([a1, a2] : List Int))).bind fun t411 => (if t411 = true then ((impl_commonAncestors.f k l0 a1 a2).bind fun t412 => (some (t412, true))) else (some (([] : List Int), false)))) = some (r1, r2) := h
 clear h
 obtain ⟨y408, hy408⟩ : ∃ y_ : List Int, y_ = (([a1, a2] : List Int)) := ⟨_, rfl⟩
 replace H : ((impl_hasKin.f k l0 y408).bind fun t411 => (if t411 = true then ((impl_commonAncestors.f k l0 a1 a2).bind fun t412 => (some (t412, true))) else (some (([] : List Int), false)))) = some (r1, r2) := by first | (rw [hy408]; with_reducible exact H) | (have H2_ := (Option.bind_some _ _).symm.trans H; rw [hy408]; with_reducible exact H2_) | (have H2_ := (Option.bind_some _ _).symm.trans H; with_reducible exact H2_) | with_reducible exact H | (rw [hy408]; exact H) | exact H
 have Ny408 := Aside0.mk hy408
 clear hy408
 replace H := Option.bind_eq_some_iff.mp H
 obtain ⟨t411, A40, H⟩ := H
 have A4 := Aside0.mk A40
 clear A40
 by_cases c5 : t411 = true
 ·subst c5
  rw [if_pos rfl] at H
  replace H := Option.bind_eq_some_iff.mp H
  obtain ⟨t412, A60, H⟩ := H
  have A6 := Aside0.mk A60
  clear A60
  simp only [Option.some.injEq, Prod.mk.injEq] at H
  obtain ⟨rfl, rfl⟩ := H
  go_enter Tryz.func14, Tryz.ntmps14
  go_wp2_with (first | ((with_reducible refine gate_dst (N := 11) rfl ?_); refine Kd.R_lit (Kd.int .i64) _ 3 ?hg (N := 11) ?hd (xs := ([a1, a2] : List Int)) (inner := [.int .i64 a1, .int .i64 a2]) (ok := fun _ => True) (okp := fun _ => True) ?hr ?hp (fun _ hk => hk) trivial (Below.refl _ _) (Nat.le_refl _) (by simp) ?_; (case hd => rfl); (case hg => rfl); (case hr => first | (go_simp; done) | (go_simp; rfl)); (case hp => exact (Reps.one (show Kd.M (Kd.int .i64) _ _ _ a1 [.int .i64 a1] from rfl) (Reps.one (show Kd.M (Kd.int .i64) _ _ _ a2 [.int .i64 a2] from rfl) (Reps.none _ _)))); intro v409 w7 ho8 hb hg_ hnew_; clear hg_ hnew_; (first | rw [← Ny408.out] at ho8 | (simp only [Int.reduceToNat] at ho8; rw [← Ny408.out] at ho8)); have n0_ := Aside0.mk (Kd.R_lower ho8 (below_size kO)); have n1_ := kH HB hb; clear HB; have HO410 := n0_; have HB := n1_; clear n0_ n1_; clear hb ho8; obtain ⟨Ao9, co9, eo9⟩ := Kd.R_slice HO410.out; subst eo9) | ((with_reducible refine gate_callee (f := 31) rfl ?_); refine kE (some 12) Tryz.func31 #[.slice A0 l0.length c0, .slice Ao9 y408.length co9] rfl ?_; (with_reducible refine (impl_hasKin.calls k _ _ l0 _ _ y408 true _ ?side1 ?side2 ?side3 ?side4 A4.out).mono ?_); (case side1 => exact kDb HR0); (case side2 => exact HC0.out); (case side3 => exact kDo HO410); (case side4 => exact (Kd.R_reads' HO410.out).2.1); rintro e w10 ⟨rfl, hb⟩; refine ⟨_, rfl, ?_⟩; have n0_ := Aside0.mk (Kd.R_below (kW HO410) hb); have n1_ := kH HB hb; clear HO410; clear HB; have HO410 := n0_; have HB := n1_; clear n0_ n1_; (try clear hb)) | ((with_reducible refine gate_callee (f := 39) rfl ?_); refine kE (some 17) Tryz.func39 #[.slice A0 l0.length c0, .int .i64 a1, .int .i64 a2] rfl ?_; (with_reducible refine (impl_commonAncestors.calls k _ _ l0 a1 a2 t412 _ ?side1 ?side2 A6.out).mono ?_); (case side1 => exact kDb HR0); (case side2 => exact HC0.out); rintro e w11 ⟨v413, rfl, ho0, hb⟩; refine ⟨_, rfl, ?_⟩; have n0_ := Aside0.mk (Kd.R_elder' (kW HO410) (Kd.R_base ho0) hb); have n1_ := Aside0.mk (Kd.R_lower (Kd.R_new' ho0 (Kd.R_lt (kW HO410))) (below_size kO)); have n2_ := kH HB hb; clear HO410; clear HB; have HO410 := n0_; have HO414 := n1_; have HB := n2_; clear n0_ n1_ n2_; (try clear hb); (try clear ho0)))
  go_ret2
  exact ⟨_, kZ, by (with_reducible repeat (first | apply Kd.R_alloc | apply Kd.R_drewN | apply Kd.R_drew)); exact Kd.R_mono HO414.out (fun _ hk => trivial), kO⟩
 ·replace c5 := Bool.eq_false_iff.mpr c5
  subst c5
  rw [if_neg (show ¬ (false = true) by decide)] at H
  simp only [Option.some.injEq, Prod.mk.injEq] at H
  obtain ⟨rfl, rfl⟩ := H
  go_enter Tryz.func14, Tryz.ntmps14
  go_wp2_with (first | ((with_reducible refine gate_dst (N := 11) rfl ?_); refine Kd.R_lit (Kd.int .i64) _ 3 ?hg (N := 11) ?hd (xs := ([a1, a2] : List Int)) (inner := [.int .i64 a1, .int .i64 a2]) (ok := fun _ => True) (okp := fun _ => True) ?hr ?hp (fun _ hk => hk) trivial (Below.refl _ _) (Nat.le_refl _) (by simp) ?_; (case hd => rfl); (case hg => rfl); (case hr => first | (go_simp; done) | (go_simp; rfl)); (case hp => exact (Reps.one (show Kd.M (Kd.int .i64) _ _ _ a1 [.int .i64 a1] from rfl) (Reps.one (show Kd.M (Kd.int .i64) _ _ _ a2 [.int .i64 a2] from rfl) (Reps.none _ _)))); intro v409 w12 ho13 hb hg_ hnew_; clear hg_ hnew_; (first | rw [← Ny408.out] at ho13 | (simp only [Int.reduceToNat] at ho13; rw [← Ny408.out] at ho13)); have n0_ := Aside0.mk (Kd.R_lower ho13 (below_size kO)); have n1_ := kH HB hb; clear HB; have HO410 := n0_; have HB := n1_; clear n0_ n1_; clear hb ho13; obtain ⟨Ao14, co14, eo14⟩ := Kd.R_slice HO410.out; subst eo14) | ((with_reducible refine gate_callee (f := 31) rfl ?_); refine kE (some 12) Tryz.func31 #[.slice A0 l0.length c0, .slice Ao14 y408.length co14] rfl ?_; (with_reducible refine (impl_hasKin.calls k _ _ l0 _ _ y408 false _ ?side1 ?side2 ?side3 ?side4 A4.out).mono ?_); (case side1 => exact kDb HR0); (case side2 => exact HC0.out); (case side3 => exact kDo HO410); (case side4 => exact (Kd.R_reads' HO410.out).2.1); rintro e w15 ⟨rfl, hb⟩; refine ⟨_, rfl, ?_⟩; have n0_ := Aside0.mk (Kd.R_below (kW HO410) hb); have n1_ := kH HB hb; clear HO410; clear HB; have HO410 := n0_; have HB := n1_; clear n0_ n1_; (try clear hb)))
  go_ret2
  exact ⟨_, kZ, by first | exact Kd.R_nil _ _ _ _ _ | exact Kd.N_nil _ _ _ _ _ | exact Kd.V_nil _ _ _ _ _ | exact Kd.Q_nil _ _ _ _ _ | exact Kd.S_nil _ _ _ _ _, kO⟩

/-! ### spec_CommonAncestors: function 15 -/
def spec_CommonAncestors.f (k : Nat) (l0 : List (S41)) (a1 : Int) (a2 : Int) : Option (List Int × Bool) := (spec_faTwo.f k l0 a1 a2).bind fun t415 => (if t415 = true then ((spec_faCommon.f k l0 a1 a2).bind fun t416 => (some (t416, true))) else (some (([] : List Int), false)))
set_option maxHeartbeats 8000000 in
set_option maxRecDepth 100000 in
theorem spec_CommonAncestors.calls (k : Nat) (A0 : Option Addr) (c0 : Nat) (l0 : List (S41)) (a1 : Int) (a2 : Int) (r1 : List Int) (r2 : Bool) (w : World) (hr0 : Kd.C k41 w A0 l0.length l0) (hc0 : l0.length ≤ c0) (h : spec_CommonAncestors.f k l0 a1 a2 = some (r1, r2)) :
  Calls Tryz.prog 15 #[.slice A0 l0.length c0, .int .i64 a1, .int .i64 a2] w fun e w' => ∃ v0_ : Value, e = .returned (.tuple #[v0_, .bool r2]) ∧ Kd.R (Kd.int .i64) 3 w' w.heap.size (fun _ => True) v0_ r1 ∧ Below w.heap.size w w' := by
 have HR0 := Aside0.mk hr0
 have HC0 := Aside0.mk hc0
 clear hr0 hc0
 have HB := Aside0.mk (Below.refl w.heap.size w)
 have H : ((spec_faTwo.f k l0 a1 a2).bind fun t415 => (if t415 = true then ((spec_faCommon.f k l0 a1 a2).bind fun t416 => (some (t416, true))) else (some (([] : List Int), false)))) = some (r1, r2) := h
 clear h
 replace H := Option.bind_eq_some_iff.mp H
 obtain ⟨t415, A40, H⟩ := H
 have A4 := Aside0.mk A40
 clear A40
 by_cases c5 : t415 = true
 ·subst c5
  rw [if_pos rfl] at H
  replace H := Option.bind_eq_some_iff.mp H
  obtain ⟨t416, A60, H⟩ := H
  have A6 := Aside0.mk A60
  clear A60
  simp only [Option.some.injEq, Prod.mk.injEq] at H
  obtain ⟨rfl, rfl⟩ := H
  go_enter Tryz.func15, Tryz.ntmps15
  go_wp2_with (first | ((with_reducible refine gate_callee (f := 40) rfl ?_); refine kE (some 11) Tryz.func40 #[.slice A0 l0.length c0, .int .i64 a1, .int .i64 a2] rfl ?_; (with_reducible refine (spec_faTwo.calls k _ _ l0 a1 a2 true _ ?side1 ?side2 A4.out).mono ?_); (case side1 => exact kD HR0); (case side2 => exact HC0.out); rintro e w7 ⟨rfl, hb⟩; refine ⟨_, rfl, ?_⟩; replace HB := kH HB hb; (try clear hb)) | ((with_reducible refine gate_callee (f := 46) rfl ?_); refine kE (some 16) Tryz.func46 #[.slice A0 l0.length c0, .int .i64 a1, .int .i64 a2] rfl ?_; (with_reducible refine (spec_faCommon.calls k _ _ l0 a1 a2 t416 _ ?side1 ?side2 A6.out).mono ?_); (case side1 => exact kDb HR0); (case side2 => exact HC0.out); rintro e w8 ⟨v417, rfl, ho0, hb⟩; refine ⟨_, rfl, ?_⟩; have n0_ := Aside0.mk (Kd.R_lower ho0 (below_size kO)); have n1_ := kH HB hb; clear HB; have HO418 := n0_; have HB := n1_; clear n0_ n1_; (try clear hb); (try clear ho0)))
  go_ret2
  exact ⟨_, kZ, kW HO418, kO⟩
 ·replace c5 := Bool.eq_false_iff.mpr c5
  subst c5
  rw [if_neg (show ¬ (false = true) by decide)] at H
  simp only [Option.some.injEq, Prod.mk.injEq] at H
  obtain ⟨rfl, rfl⟩ := H
  go_enter Tryz.func15, Tryz.ntmps15
  go_wp2_with (first | ((with_reducible refine gate_callee (f := 40) rfl ?_); refine kE (some 11) Tryz.func40 #[.slice A0 l0.length c0, .int .i64 a1, .int .i64 a2] rfl ?_; (with_reducible refine (spec_faTwo.calls k _ _ l0 a1 a2 false _ ?side1 ?side2 A4.out).mono ?_); (case side1 => exact kD HR0); (case side2 => exact HC0.out); rintro e w9 ⟨rfl, hb⟩; refine ⟨_, rfl, ?_⟩; replace HB := kH HB hb; (try clear hb)))
  go_ret2
  exact ⟨_, kZ, by first | exact Kd.R_nil _ _ _ _ _ | exact Kd.N_nil _ _ _ _ _ | exact Kd.V_nil _ _ _ _ _ | exact Kd.Q_nil _ _ _ _ _ | exact Kd.S_nil _ _ _ _ _, kO⟩

end Go.Proofs.YtllihaahppelhaaGreat.P
namespace Go.Proofs.YtllihaahppelhaaGreat.P
open Go.RowKit Go.Proofs.YtllihaahppelhaaGreatW.PrintWords Go.Proofs.YtllihaahppelhaaGreatW.PrintLast Go.Proofs.YtllihaahppelhaaGreatW.PrintMore
attribute [local go_sem] max2_int min2_int max_two min_two max_three min_three max_four min_four   -- for this text's walks alone
set_option linter.unusedVariables false
set_option linter.unusedSimpArgs false

/-! ### slices_Repeat_int_int: function 76, by hand -/
-- IMPORT Derived.Test.YtllihaahppelhaaGreatHlp
-- IMPORT Derived.Test.YtllihaahppelhaaGreatShl
-- IMPORT Derived.Laws.CopyOwn
-- IMPORT Derived.Deep.RegionLaw
-- IMPORT Derived.IntWalk
def slices_Repeat_int_int.f (l0 : List Int) (a1 : Int) : Option (List Int) := if l0.length = 1 then (if 1 ≤ a1 then (if a1 ≤ 1000 then some (List.replicate a1.toNat (rd l0 0)) else none) else none) else none
def slices_Repeat_int_int.row (x : Int) (m k : Nat) : List Value := List.replicate k (.int .i64 x) ++ List.replicate (m - k) (.int .i64 0)
theorem slices_Repeat_int_int.row_len (x : Int) (m k : Nat) (h : k ≤ m) : (slices_Repeat_int_int.row x m k).length = m := by simp [slices_Repeat_int_int.row]; omega
theorem slices_Repeat_int_int.row_step (x : Int) (m k q : Nat) (h : k + q ≤ m) : splice (slices_Repeat_int_int.row x m k) k (List.replicate q (.int .i64 x)) = slices_Repeat_int_int.row x m (k + q) := by
  unfold splice slices_Repeat_int_int.row
  have e1 : (List.replicate k (Value.int .i64 x) ++ List.replicate (m - k) (Value.int .i64 0)).take k = List.replicate k (Value.int .i64 x) := by
    rw [List.take_append_of_le_length (by simp)]; simp
  have e2 : (List.replicate k (Value.int .i64 x) ++ List.replicate (m - k) (Value.int .i64 0)).drop (k + q) = List.replicate (m - (k + q)) (Value.int .i64 0) := by
    rw [List.drop_append, List.length_replicate, List.drop_replicate, List.drop_replicate, show k - (k + q) = 0 by omega, show m - k - (k + q - k) = m - (k + q) by omega]
    rfl
  rw [List.length_replicate, e1, e2, ← List.append_assoc, List.replicate_append_replicate]
theorem slices_Repeat_int_int.row_at (x : Int) (m k j : Nat) (hj : j < k) (v : Value) (hv : (List.replicate k (Value.int .i64 x))[j]? = some v) : (slices_Repeat_int_int.row x m k).toArray[j]? = some v := by
  unfold slices_Repeat_int_int.row
  rw [List.getElem?_toArray, List.getElem?_append_left (by simpa using hj)]
  exact hv
set_option maxHeartbeats 4000000 in
set_option maxRecDepth 100000 in
theorem slices_Repeat_int_int.calls (A0 : Option Addr) (c0 : Nat) (l0 : List Int) (a1 : Int) (r : List Int) (w : World) (hr0 : Kd.C (Kd.int .i64) w A0 l0.length l0) (hc0 : l0.length ≤ c0) (h : slices_Repeat_int_int.f l0 a1 = some r) :
    Calls Tryz.prog 76 #[.slice A0 l0.length c0, .int .i64 a1] w fun e w' => ∃ v0_ : Value, e = .returned v0_ ∧ Kd.R (Kd.int .i64) 3 w' w.heap.size (fun _ => True) v0_ r ∧ Below w.heap.size w w' := by
  unfold slices_Repeat_int_int.f at h
  have h1 : l0.length = 1 := by
    split at h
    · assumption
    · cases h
  rw [if_pos h1] at h
  have h2 : 1 ≤ a1 := by
    split at h
    · assumption
    · cases h
  rw [if_pos h2] at h
  have h3 : a1 ≤ 1000 := by
    split at h
    · assumption
    · cases h
  rw [if_pos h3] at h
  obtain rfl := Option.some.inj h
  clear h
  obtain ⟨m, rfl⟩ := Int.eq_ofNat_of_zero_le (show 0 ≤ a1 by omega)
  rw [Int.toNat_natCast]
  obtain ⟨x, rfl⟩ : ∃ x, l0 = [x] := by
    match l0, h1 with
    | [x], _ => exact ⟨x, rfl⟩
  obtain ⟨ad, rfl, hx⟩ := Hlp.int_at hr0 0 (by simp)
  have hx : w.cell? (ad.add 0) = some (.int .i64 x) := hx
  have hmul : ∀ W, Calls Tryz.prog 89 #[.int .u64 1, .int .u64 (m : Int)] W fun e w' => e = .returned (.tuple #[.int .u64 0, .int .u64 (m : Int)]) ∧ W = w' := by
    intro W
    have := Tryz.bits_Mul 1 m (by omega) (by omega) W
    rw [show (1 * m / 18446744073709551616 : Nat) = 0 by omega, show (1 * m % 18446744073709551616 : Nat) = m by omega] at this
    exact this.mono fun e w' he => ⟨he.1, he.2.symm⟩
  have hmk := print_make (P := Tryz.prog) 31 3 .i64 8 Tryz.underlying31 info3 (by omega) m (by omega)
  have hin : (Tryz.prog.info? 3).map (·.size) = some 1 := by
    obtain ⟨i0, hi, _, hz, _⟩ := info_parts info3
    rw [hi]; exact congrArg some hz
  have hw0 : ∀ W : World, (W.alloc (.cells (madeCells #[.int .i64 0] m) 3)).heap[W.heap.size]? = some (.cells (slices_Repeat_int_int.row x m 0).toArray 3 (0, 0)) := by
    intro W
    rw [heap_alloc_new]
    congr 2
    apply Array.ext
    · simp [slices_Repeat_int_int.row, size_madeCells]
    · intro i h1 h2
      simp [slices_Repeat_int_int.row, madeCells, Nat.mod_one]
  have hb0 : Below w.heap.size w (w.alloc (.cells (madeCells #[.int .i64 0] m) 3)) := (Below.refl _ w).alloc (Nat.le_refl _) _
  have HB0 := Aside0.mk hb0
  have HW0 := Aside0.mk (hw0 w)
  have HX := Aside0.mk (show (w.alloc (.cells (madeCells #[.int .i64 0] m) 3)).cell? (ad.add 0) = some (.int .i64 x) from pw_cell_below hb0 hx)
  have HI := Aside0.mk hin
  have HM := Aside0.mk hmul
  have HF := Aside0.mk (show ∀ (w' : World) (g : Nat), g = w.heap.size → w'.heap[g]? = some (.cells (slices_Repeat_int_int.row x m m).toArray 3 (0, 0)) → Kd.R (Kd.int .i64) 3 w' w.heap.size (fun _ => True) (.slice (some ⟨g, 0, none⟩) m m) (List.replicate m x) from by
    intro w' g hg hh
    refine Kd.R_of_own ?_ (fun _ _ => trivial)
    rw [List.length_replicate]
    refine ⟨by simp [encs], .inr ⟨g, m, (slices_Repeat_int_int.row x m m).toArray, rfl, by omega, hh, Nat.le_refl _, by unfold maxLen; omega, by simp [slices_Repeat_int_int.row], ?_⟩⟩
    simp [slices_Repeat_int_int.row, encs])
  have e1 : (0 : Int) ≤ (m : Int) := by omega
  clear hb0 hw0 hx hr0 hin hmul h1
  go_enter Tryz.func76, Tryz.ntmps76
  go_wp2_with (first | (go_at_call 89; refine (HM.out _).mono ?_; rintro e w' ⟨rfl, rfl⟩) | (with_reducible refine wpList_copy_splice rfl (.tmp 31) (.tmp 32) 31 31 rfl 3 Tryz.underlying31 HI.out (some ⟨w.heap.size, 0, none⟩) (some ad) m m 1 c0 rfl rfl w.heap.size 0 (slices_Repeat_int_int.row x m 0) 3 HW0.out [.int .i64 x] ?hn ?hpos ?hfit ?h1 w.heap.size w HB0.out (Nat.le_refl _) ?_))
  case hn => simp [Nat.min_def]; omega
  case hpos =>
    intro j v hv
    cases j with
    | zero => obtain rfl := Option.some.inj hv; exact HX.out
    | succ j => simp at hv
  case hfit => rw [slices_Repeat_int_int.row_len x m 0 (by omega)]; simp; omega
  case h1 => intro u hu; rw [List.mem_singleton.1 hu]; rfl
  intro w1 hg1 hb1
  have HB1 := Aside0.mk hb1
  have HG1 := Aside0.mk (show w1.heap[w.heap.size]? = some (.cells (slices_Repeat_int_int.row x m 1).toArray 3 (0, 0)) from by
    have h5 := hg1.out
    rw [show ([Value.int .i64 x] : List Value) = List.replicate 1 (Value.int .i64 x) from rfl, slices_Repeat_int_int.row_step x m 0 1 (by omega)] at h5
    exact h5)
  clear hb1 hg1 HX HW0 HB0 HM hmk
  go_wp2
  go_loopg [8] m (fun gg s8 wr => ∃ k : Nat, 1 ≤ k ∧ k ≤ m ∧ m - k ≤ gg ∧ s8 = .int .i64 (k : Int) ∧ Aside0 (wr.heap[w.heap.size]? = some (.cells (slices_Repeat_int_int.row x m k).toArray 3 (0, 0))) ∧ Aside0 (Below w.heap.size w wr))
  case atStart => exact ⟨1, Nat.le_refl _, by omega, by omega, rfl, HG1, HB1⟩
  case round =>
    obtain ⟨k, hk1, hkm, hgg, rfl, HG, HB⟩ := hrel
    clear HG1 HB1
    by_cases hlt : k < m
    · obtain ⟨q, hq⟩ : ∃ q, q = Nat.min k (m - k) := ⟨_, rfl⟩
      have hq1 : 1 ≤ q := by rw [hq]; show 1 ≤ min k (m - k); omega
      have hq2 : k + q ≤ m := by rw [hq]; show k + min k (m - k) ≤ m; omega
      have hq3 : q ≤ k := by rw [hq]; show min k (m - k) ≤ k; omega
      have HQ := Aside0.mk hq
      have hltz : (k : Int) < (m : Int) := by omega
      have hne : ¬ m = k := by omega
      have hs1 : IntKind.i64.wrap ((k : Int) + (q : Int)) = (k : Int) + (q : Int) := IntWalk.i64_in _ (by omega)
      clear hq
      have HP := Aside0.mk (show ∀ j v, (List.replicate q (Value.int .i64 x))[j]? = some v → wr.cell? ((⟨w.heap.size, 0, none⟩ : Addr).add j) = some v from by
        intro j v hv
        have hj : j < q := by
          have := (List.getElem?_eq_some_iff.1 hv).1
          simpa using this
        rw [add_plain, blk_cell HG.out]
        refine slices_Repeat_int_int.row_at x m k j (by omega) v ?_
        rw [List.getElem?_replicate, if_pos (by omega)]
        rw [List.getElem?_replicate, if_pos hj] at hv
        exact hv)
      go_wp2
      go_region_law (refine step_copy_splice rfl (.tmp 41) (.tmp 44) 31 31 rfl 3 Tryz.underlying31 HI.out (some ⟨w.heap.size, k, none⟩) (some ⟨w.heap.size, 0, none⟩) (m - k) (m - k) k m (by simp [Act.eval, Act.put]) (by simp [Act.eval, Act.put]) w.heap.size k (slices_Repeat_int_int.row x m k) 3 HG.out (List.replicate q (.int .i64 x)) (by rw [List.length_replicate]; exact HQ.out) (fun _ => ⟨rfl, _, rfl, HP.out⟩) (by rw [slices_Repeat_int_int.row_len x m k (by omega), List.length_replicate]; exact hq2) (by intro u hu; rw [List.eq_of_mem_replicate hu]; rfl) w.heap.size w (pw_below_drewN HB.out 1) (Nat.le_refl _) ?_; intro w4 hg4 hb4; have HG4 := Aside0.mk (show w4.heap[w.heap.size]? = some (.cells (slices_Repeat_int_int.row x m (k + q)).toArray 3 (0, 0)) from (by have h5 := hg4.out; rw [slices_Repeat_int_int.row_step x m k q hq2] at h5; exact h5)); have HB4 := Aside0.mk hb4; clear hg4 hb4; simp only [List.length_replicate])
      go_simp
      go_wp2
      go_roundg (m - (k + q))
      case measure => omega
      case rel => exact ⟨k + q, by omega, hq2, by omega, by go_num, HG4, HB4⟩
    · obtain rfl : k = m := by omega
      have hltz : ¬ (k : Int) < (k : Int) := by omega
      go_wp2
      go_ret
      exact ⟨_, rfl, HF.out _ _ rfl HG.out, HB.out⟩

end Go.Proofs.YtllihaahppelhaaGreat.P
namespace Go.Proofs.YtllihaahppelhaaGreat.P
open Go.RowKit Go.Proofs.YtllihaahppelhaaGreatW.PrintWords Go.Proofs.YtllihaahppelhaaGreatW.PrintLast Go.Proofs.YtllihaahppelhaaGreatW.PrintMore
attribute [local go_sem] max2_int min2_int max_two min_two max_three min_three max_four min_four   -- for this text's walks alone
set_option linter.unusedVariables false
set_option linter.unusedSimpArgs false

/-! ### impl_steps: function 47, by hand -/
-- IMPORT Derived.Test.YtllihaahppelhaaGreatHlp
-- IMPORT Derived.Shelf.Abstract
/-- What somebody's neighbours turn in the table and the queue. -/
def impl_steps.inn (i : Int) : List Int → List Int → List Int → Option (List Int × List Int)
  | [], out, qu => some (out, qu)
  | y :: ks, out, qu => if 0 ≤ y ∧ y < (out.length : Int) then (if rd out y < 0 then (if (0 ≤ rd qu i ∧ rd qu i < (out.length : Int)) ∧ (0 ≤ rd out (rd qu i) ∧ rd out (rd qu i) ≤ 100000) ∧ qu.length < 100000 then impl_steps.inn i ks (out.set y.toNat (rd out (rd qu i) + 1)) (qu ++ [y]) else none) else impl_steps.inn i ks out qu) else none
def impl_steps.lp (nx : Int → Option (List Int)) : Nat → List Int → List Int → Nat → Option (List Int)
  | 0, _, _, _ => none
  | k + 1, out, qu, i => if i < qu.length then (nx (rd qu (i : Int))).bind fun ks => (impl_steps.inn (i : Int) ks out qu).bind fun s => impl_steps.lp nx k s.1 s.2 (i + 1) else some out
def impl_steps.g (nx : Int → Option (List Int)) (k n : Nat) (from_ : Int) : Option (List Int) :=
  if (1 ≤ n ∧ n ≤ 1000) ∧ 0 ≤ from_ ∧ from_ < (n : Int) then impl_steps.lp nx k ((List.replicate n (-1 : Int)).set from_.toNat 0) [from_] 0 else none
/-- What the table (in block g1) and the queue are, between two rounds. -/
structure impl_steps.St (w wr : World) (g1 c1 n : Nat) (A8 : Option Addr) (c8 : Nat) (out qu : List Int) : Prop where
  len : out.length = n
  few : qu.length ≤ 100000
  row : Kd.R (Kd.int .i64) 3 wr w.heap.size (fun _ => True) (.slice (some ⟨g1, 0, none⟩) n c1) out
  que : Kd.R (Kd.int .i64) 3 wr w.heap.size (fun _ => True) (.slice A8 qu.length c8) qu
  ne : (Value.slice A8 qu.length c8).ownBlock ≠ some g1
  lt : g1 < wr.heap.size
  bel : Below w.heap.size w wr
section
variable {w wr W : World} {g1 c1 n : Nat} {A8 : Option Addr} {c8 : Nat} {out qu : List Int}
theorem impl_steps.St.next (h : impl_steps.St w wr g1 c1 n A8 c8 out qu) (hb : Below wr.heap.size wr W) : impl_steps.St w W g1 c1 n A8 c8 out qu :=
  ⟨h.len, h.few, Kd.R_below h.row hb, Kd.R_below h.que hb, h.ne, Nat.lt_of_lt_of_le h.lt hb.size, below_step h.bel hb⟩
theorem impl_steps.St.at_q (h : impl_steps.St w wr g1 c1 n A8 c8 out qu) (i : Nat) (hi : i < qu.length) : ∃ ad, A8 = some ad ∧ wr.cell? (ad.add i) = some (.int .i64 (rd qu (i : Int))) := by
  obtain ⟨ad, e, hc⟩ := Hlp.int_at (Kd.R_reads' h.que).2.2 i hi
  refine ⟨ad, e, ?_⟩
  rw [hc]
  simp [rd, List.getD_eq_getElem?_getD, List.getElem?_eq_getElem hi]
theorem impl_steps.St.at_o (h : impl_steps.St w wr g1 c1 n A8 c8 out qu) (y : Nat) (hy : y < n) : wr.cell? ⟨g1, y, none⟩ = some (.int .i64 (rd out (y : Int))) ∧ wr.frozen? ⟨g1, y, none⟩ = false := by
  have := Kd.R_celln (0 : Int) h.row (y : Int) (by omega) (by omega)
  rw [Int.toNat_natCast] at this
  exact this
theorem impl_steps.St.put (h : impl_steps.St w wr g1 c1 n A8 c8 out qu) (y : Nat) (v : Int) : impl_steps.St w (wr.setCell ⟨g1, y, none⟩ (.int .i64 v)) g1 c1 n A8 c8 (out.set y v) qu := by
  have hp := Kd.R_putg h.row (y : Int) v
  rw [Int.toNat_natCast] at hp
  exact ⟨by rw [List.length_set]; exact h.len, h.few, hp.1, Kd.R_grown1 h.que rfl hp.2 (fun e => h.ne e.symm), h.ne, by simpa [World.setCell] using h.lt, below_set h.bel (Kd.R_base h.row g1 (by simp [Value.ownBlock]))⟩
theorem impl_steps.St.app (h : impl_steps.St w wr g1 c1 n A8 c8 out qu) (y : Int) (hf : qu.length < 100000) (v1 : Value) (hR : Kd.R (Kd.int .i64) 3 W w.heap.size (fun _ => True) v1 (qu ++ [y])) (hB : Below w.heap.size w W) (hg : wr.grownBy W (Value.slice A8 qu.length c8).ownBlock)
    (hat : v1.ownBlock = (Value.slice A8 qu.length c8).ownBlock ∨ ∃ b, v1.ownBlock = some b ∧ wr.heap.size ≤ b) : ∃ A9 c9, v1 = .slice A9 (qu ++ [y]).length c9 ∧ impl_steps.St w W g1 c1 n A9 c9 out (qu ++ [y]) := by
  obtain ⟨A9, c9, rfl⟩ := Kd.R_slice hR
  refine ⟨A9, c9, rfl, h.len, by rw [List.length_append, List.length_singleton]; omega, Kd.R_grown1 h.row rfl hg (fun e => h.ne (e.trans rfl)), hR, ?_, Nat.lt_of_lt_of_le h.lt hg.size, hB⟩
  rcases hat with hat | ⟨b, hb, hle⟩
  · rw [hat]; exact h.ne
  · rw [hb]
    intro e
    injection e with e
    have := h.lt
    omega
end
set_option maxHeartbeats 8000000 in
set_option maxRecDepth 100000 in
theorem impl_steps.any (nx : Int → Option (List Int)) (k : Nat) (g : Nat) (lb : Array Value) (eg : ∀ args w, (callFunc g args).run Tryz.prog w = .ok (.enter g args) w) (A0 : Option Addr) (n c0 : Nat) (from_ : Int) (r : List Int) (w : World)
    (hn : ∀ x ks, nx x = some ks → ∀ W, Below w.heap.size w W → Calls Tryz.prog g (#[.int .i64 x] ++ lb) W fun e w' => ∃ v : Value, e = .returned v ∧ Kd.R (Kd.int .i64) 3 w' W.heap.size (fun _ => True) v ks ∧ Below W.heap.size W w')
    (h : impl_steps.g nx k n from_ = some r) :
    Calls Tryz.prog 47 #[.slice A0 n c0, .int .i64 from_, .func (.func g) #[] lb] w fun e w' => ∃ v0_ : Value, e = .returned v0_ ∧ Kd.R (Kd.int .i64) 3 w' w.heap.size (fun _ => True) v0_ r ∧ Below w.heap.size w w' := by
  unfold impl_steps.g at h
  have hc : (1 ≤ n ∧ n ≤ 1000) ∧ 0 ≤ from_ ∧ from_ < (n : Int) := by
    split at h
    · assumption
    · cases h
  rw [if_pos hc] at h
  obtain ⟨⟨hn1, hn2⟩, hf1, hf2⟩ := hc
  obtain ⟨m, rfl⟩ := Int.eq_ofNat_of_zero_le hf1
  have hmn : m < n := by omega
  rw [Int.toNat_natCast] at h
  -- the table is made
  have hb0 : Below w.heap.size w (w.alloc (.cells #[.int .i64 (-1)] 3)) := (Below.refl _ w).alloc (Nat.le_refl _) _
  have hlit := own_lit w w.heap.size 3 .i64 [-1] (Nat.le_refl _) (by simp)
  have hC0 : Kd.C (Kd.int .i64) (w.alloc (.cells #[.int .i64 (-1)] 3)) (some ⟨w.heap.size, 0, none⟩) ([-1] : List Int).length [-1] := Kd.C_of_reads (d := (0 : Int)) (h1 := fun _ => rfl) (own_reads' hlit)
  have hrep := slices_Repeat_int_int.calls (some ⟨w.heap.size, 0, none⟩) 1 [-1] (n : Int) (List.replicate n (-1)) (w.alloc (.cells #[.int .i64 (-1)] 3)) hC0 (by simp) (by
    unfold slices_Repeat_int_int.f
    rw [if_pos (by rfl), if_pos (by omega), if_pos (by omega), Int.toNat_natCast]
    rfl)
  have HREP : Aside0 (Calls Tryz.prog 76 #[.slice (some ⟨w.heap.size, 0, none⟩) 1 1, .int .i64 (n : Int)] (w.alloc (.cells #[.int .i64 (-1)] 3)) fun e w' => ∃ g1 c1, e = .returned (.slice (some ⟨g1, 0, none⟩) n c1) ∧ w'.cell? ⟨g1, m, none⟩ = some (.int .i64 (-1)) ∧ w'.frozen? ⟨g1, m, none⟩ = false ∧
      Aside0 (w.heap.size ≤ g1 ∧ g1 < w'.heap.size ∧ Kd.R (Kd.int .i64) 3 w' w.heap.size (fun _ => True) (.slice (some ⟨g1, 0, none⟩) n c1) (List.replicate n (-1)) ∧ Below w.heap.size w w')) := ⟨hrep.mono fun e w' he => by
    obtain ⟨v, rfl, hR, hb⟩ := he
    have hR1 : Kd.R (Kd.int .i64) 3 w' w.heap.size (fun _ => True) v (List.replicate n (-1)) := Kd.R_lower hR (by simp)
    obtain ⟨g1, c1, rfl, h1, h2, _⟩ := Kd.R_form hR1 (by simp; omega)
    rw [List.length_replicate] at hR1 ⊢
    have hcell := Kd.R_celln (0 : Int) hR1 (m : Int) (by omega) (by omega)
    rw [Int.toNat_natCast] at hcell
    refine ⟨g1, c1, rfl, ?_, hcell.2, ⟨h1, h2, hR1, hb0.trans (hb.mono (by simp))⟩⟩
    rw [hcell.1]
    simp [rdOf, List.getD_eq_getElem?_getD, hmn]⟩
  clear hrep hC0 hlit hb0
  have HN := Aside0.mk hn
  have HH := Aside0.mk h
  have hlt1 : (m : Int) < (n : Int) := by omega
  clear hn h hf1 hf2
  go_enter Tryz.func47, Tryz.ntmps47
  go_wp2_with (first | (go_at_call 76; refine HREP.out.mono ?_; rintro e w1 ⟨g1, c1, rfl, hcl, hfz, hR⟩; clear HREP))
  have HS0 := Aside0.mk (show impl_steps.St w ((w1.setCell ⟨g1, m, none⟩ (.int .i64 0)).alloc (.cells #[.int .i64 (m : Int)] 3)) g1 c1 n (some ⟨w1.heap.size, 0, none⟩) 1 ((List.replicate n (-1)).set m 0) [(m : Int)] from by
    obtain ⟨h1, h2, h3, h4⟩ := hR.out
    have hp := Kd.R_putg h3 (m : Int) (0 : Int)
    rw [Int.toNat_natCast] at hp
    have hsz : (w1.setCell ⟨g1, m, none⟩ (.int .i64 0)).heap.size = w1.heap.size := by simp [World.setCell]
    have hB1 : Below w.heap.size w (w1.setCell ⟨g1, m, none⟩ (.int .i64 0)) := below_set h4 h1
    have hl := own_lit (w1.setCell ⟨g1, m, none⟩ (.int .i64 0)) w.heap.size 3 .i64 [(m : Int)] (by rw [hsz]; exact h4.size) (by simp)
    rw [hsz] at hl
    exact ⟨by simp, by simp, Kd.R_alloc hp.1 _, Kd.R_of_own (by simpa [encs, nums] using hl) (fun _ _ => trivial), by simp [Value.ownBlock]; omega, by simp [World.setCell]; omega, below_alloc hB1 _⟩)
  clear hR hcl hfz
  go_loopg [8, 9] k (fun gg s8 s9 wr => ∃ (out qu : List Int) (i : Nat) (A8 : Option Addr) (c8 : Nat), s8 = .slice A8 qu.length c8 ∧ s9 = .int .i64 (i : Int) ∧ Aside0 (impl_steps.lp nx gg out qu i = some r) ∧ Aside0 (impl_steps.St w wr g1 c1 n A8 c8 out qu))
  case atStart => exact ⟨_, _, 0, _, _, rfl, rfl, HH, HS0⟩
  case round =>
    obtain ⟨out, qu, i, A8, c8, rfl, rfl, HL, HS⟩ := hrel
    clear HS0 HH
    cases gk with
    | zero => exact absurd HL.out (by simp [impl_steps.lp])
    | succ kf =>
    have hl := HL.out
    simp only [impl_steps.lp] at hl
    by_cases hi : i < qu.length
    · rw [if_pos hi] at hl
      obtain ⟨ks, hks, hl⟩ := Option.bind_eq_some_iff.1 hl
      have hiz : (i : Int) < (qu.length : Int) := by omega
      obtain ⟨ad, e8, hcq⟩ := HS.out.at_q i hi
      subst e8
      have hcall := HN.out _ _ hks wr HS.out.bel
      generalize hqi : rd qu (i : Int) = x at hcq hcall
      have HX := Aside0.mk hqi
      have HI := Aside0.mk hi
      have HJ := Aside0.mk hl
      have HC := Aside0.mk hcall
      have hil : (i : Int) + 1 ≤ 9223372036854775807 := by have := HS.out.few; omega
      clear hl hqi hks HL hcall hi
      go_wp2_with (go_at_fn g; refine HC.out.mono ?_; rintro e w2 ⟨v2, rfl, hR2, hb2⟩; obtain ⟨A32, c32, e32⟩ := Kd.R_slice hR2; subst e32; have HK2 := Aside0.mk hR2; have HB2 := Aside0.mk hb2; clear hR2 hb2 HC hcq)
      have HS2 := Aside0.mk (HS.out.next HB2.out)
      have HNE := Aside0.mk (show NeRow (.slice A32 ks.length c32) (.slice (some ad) qu.length c8) ∧ (Value.slice A32 ks.length c32).ownBlock ≠ some g1 from by
        refine ⟨fun b hb hb' => ?_, fun e => ?_⟩
        · have h1 := Kd.R_base HK2.out b hb
          have h2 := Kd.R_lt HS.out.que b hb'
          omega
        · have h1 := Kd.R_base HK2.out g1 e
          have h2 := HS.out.lt
          omega)
      have HK3 := Aside0.mk (show Kd.R (Kd.int .i64) 3 w2 0 (fun _ => True) (.slice A32 ks.length c32) ks from Kd.R_lower HK2.out (Nat.zero_le _))
      clear HS HK2 HB2
      go_loopg [8, 34] ks.length (fun gg s8 s34 wr => ∃ (out qu : List Int) (j : Nat) (A8 : Option Addr) (c8 : Nat), s8 = .slice A8 qu.length c8 ∧ s34 = .int .i64 (j : Int) ∧ j ≤ ks.length ∧ ks.length - j ≤ gg ∧ Aside0 (i < qu.length ∧ rd qu (i : Int) = x) ∧ Aside0 ((impl_steps.inn (i : Int) (ks.drop j) out qu).bind (fun s => impl_steps.lp nx kf s.1 s.2 (i + 1)) = some r) ∧ Aside0 (impl_steps.St w wr g1 c1 n A8 c8 out qu) ∧
        Aside0 (Kd.R (Kd.int .i64) 3 wr 0 (fun _ => True) (.slice A32 ks.length c32) ks) ∧ Aside0 (NeRow (.slice A32 ks.length c32) (.slice A8 qu.length c8) ∧ (Value.slice A32 ks.length c32).ownBlock ≠ some g1))
      case atStart => exact ⟨out, qu, 0, some ad, c8, rfl, rfl, Nat.zero_le _, by omega, ⟨HI.out, HX.out⟩, HJ, HS2, HK3, HNE⟩
      case round =>
        obtain ⟨out, qu, j, A8, c8, rfl, rfl, hj, hgg, HI, HL, HS, HK, HN2⟩ := hrel
        clear HS2 HK3 HNE HJ HX
        by_cases hjl : j < ks.length
        · have hjz : (j : Int) < (ks.length : Int) := by omega
          have hjb : (j : Int) + 1 ≤ 9223372036854775807 := by have := Kd.C_max (Kd.R_reads' HK.out).2.2; omega
          obtain ⟨ak, ek, hck⟩ := Hlp.int_at (Kd.R_reads' HK.out).2.2 j hjl
          have hl := HL.out
          rw [List.drop_eq_getElem_cons hjl] at hl
          simp only [impl_steps.inn] at hl
          obtain ⟨s, hs, hl⟩ := Option.bind_eq_some_iff.1 hl
          have hy : 0 ≤ ks[j] ∧ ks[j] < (out.length : Int) := by
            split at hs
            · assumption
            · cases hs
          rw [if_pos hy] at hs
          generalize hyk : ks[j] = y at hy hs hck
          obtain ⟨y, rfl⟩ := Int.eq_ofNat_of_zero_le hy.1
          have hyn : y < n := by have := HS.out.len; omega
          have hynz : (y : Int) < (n : Int) := by omega
          obtain ⟨hco, hfo⟩ := HS.out.at_o y hyn
          subst ek
          by_cases hneg : rd out (y : Int) < 0
          · rw [if_pos hneg] at hs
            have hq : (0 ≤ rd qu (i : Int) ∧ rd qu (i : Int) < (out.length : Int)) ∧ (0 ≤ rd out (rd qu (i : Int)) ∧ rd out (rd qu (i : Int)) ≤ 100000) ∧ qu.length < 100000 := by
              split at hs
              · assumption
              · cases hs
            rw [if_pos hq] at hs
            obtain ⟨adq, e8, hcq⟩ := HS.out.at_q i HI.out.1
            subst e8
            have hiz : (i : Int) < (qu.length : Int) := by have := HI.out.1; omega
            generalize hqi : rd qu (i : Int) = q at hq hs hcq
            obtain ⟨⟨hq1, hq2⟩, ⟨hd1, hd2⟩, hqf⟩ := hq
            obtain ⟨q, rfl⟩ := Int.eq_ofNat_of_zero_le hq1
            have hqn : q < n := by have := HS.out.len; omega
            have hqnz : (q : Int) < (n : Int) := by omega
            obtain ⟨hcd, _⟩ := HS.out.at_o q hqn
            generalize hdv : rd out (q : Int) = d at hd1 hd2 hcd hs
            generalize hov : rd out (y : Int) = o at hneg hco
            have HHS := Aside0.mk hs
            have HHL := Aside0.mk hl
            have HQI := Aside0.mk hqi
            have HQF := Aside0.mk hqf
            have HSP := Aside0.mk (HS.out.put y (d + 1))
            rw [Int.toNat_natCast] at HHS
            clear hs hl hqi hdv hov HL hyk hq2 hyn hqn hy
            go_wp2_with (first | ((with_reducible refine gate_builtin (b := .append) (xs := #[.tmp 54, .tmp 56]) rfl ?_); at_builtin; refine Kd.R_append (Kd.int .i64) (w0 := w) w.heap.size rfl (.tmp 54) (.tmp 56) 31 3 (.int .i64 0) 8 rfl Tryz.underlying31 info3 rfl (by decide) (by omega) (.slice (some adq) qu.length c8) qu (y : Int) [.int .i64 (y : Int)] (fun _ => True) (fun _ => False) rfl (by first | (go_simp; done) | (go_simp; rfl)) rfl (fun _ hk => hk.elim) (fun _ _ => trivial) HSP.out.que HSP.out.bel HSP.out.bel.size (by have := HQF.out; omega) ?_; intro v3 w3 ho hb hg hat; have HO3 := Aside0.mk ho; have HB3 := Aside0.mk hb; have HG3 := Aside0.mk hg; have HAT := Aside0.mk hat; clear ho hb hg hat))
            obtain ⟨A9, c9, e9, hs9⟩ := HSP.out.app (y : Int) HQF.out v3 HO3.out HB3.out HG3.out HAT.out
            subst e9
            have hp := (Kd.R_putg HS.out.row (y : Int) (d + 1)).2
            rw [Int.toNat_natCast] at hp
            have HKP := Aside0.mk (Kd.R_grown1 HK.out rfl hp (fun e => HN2.out.2 e.symm))
            clear hp
            go_roundg (ks.length - (j + 1))
            case measure => omega
            case rel =>
              refine ⟨out.set y (d + 1), qu ++ [(y : Int)], j + 1, A9, c9, rfl, by go_num, by omega, by omega, ⟨?_, ?_⟩, ⟨?_⟩, ⟨hs9⟩, ⟨Kd.R_grown2 HKP.out rfl HG3.out (fun b hb e => HN2.out.1 b e.symm hb)⟩, ⟨ne_append' HN2.out.1 HAT.out (Kd.own_of_R HKP.out), HN2.out.2⟩⟩
              · rw [List.length_append]; have := HI.out.1; omega
              · rw [← HI.out.2]
                simp [rd, List.getD_eq_getElem?_getD, List.getElem?_append_left HI.out.1]
              · rw [HHS.out]; exact HHL.out
          · rw [if_neg hneg] at hs
            have HHL := Aside0.mk (show (impl_steps.inn (i : Int) (ks.drop (j + 1)) out qu).bind (fun s => impl_steps.lp nx kf s.1 s.2 (i + 1)) = some r by rw [hs]; exact hl)
            generalize hov : rd out (y : Int) = o at hneg hco
            clear hs hl hov HL hyk hyn hy
            go_wp2
            go_roundg (ks.length - (j + 1))
            case measure => omega
            case rel => exact ⟨out, qu, j + 1, A8, c8, rfl, by go_num, by omega, by omega, HI, HHL, HS, HK, HN2⟩
        · have hjz : ¬ (j : Int) < (ks.length : Int) := by omega
          have HHL := Aside0.mk (show impl_steps.lp nx kf out qu (i + 1) = some r by
            have hl := HL.out
            rw [List.drop_eq_nil_of_le (by omega)] at hl
            exact hl)
          clear HL
          go_wp2
          go_roundg kf
          case measure => omega
          case rel => exact ⟨out, qu, i + 1, A8, c8, rfl, by go_num, HHL, HS⟩
    · rw [if_neg hi] at hl
      obtain rfl := Option.some.inj hl
      have hiz : ¬ (i : Int) < (qu.length : Int) := by omega
      clear hl
      go_wp2
      go_ret
      exact ⟨_, rfl, HS.out.row, HS.out.bel⟩

end Go.Proofs.YtllihaahppelhaaGreat.P
namespace Go.Proofs.YtllihaahppelhaaGreat.P
open Go.RowKit Go.Proofs.YtllihaahppelhaaGreatW.PrintWords Go.Proofs.YtllihaahppelhaaGreatW.PrintLast Go.Proofs.YtllihaahppelhaaGreatW.PrintMore
attribute [local go_sem] max2_int min2_int max_two min_two max_three min_three max_four min_four   -- for this text's walks alone
set_option linter.unusedVariables false
set_option linter.unusedSimpArgs false

/-! ### impl_children: function 50 -/
def impl_children.l0 : Nat → Int → List Int → List (S41) → Int → Int → Option (List Int)
 | 0, _, _, _, _, _ => none
 | k + 1, x1, x5, x9, x10, x11 => if x11 < x10 then (if 0 ≤ x11 then (if x11 < (x9.length : Int) then ((impl_Kin_parents.f ((rd_T41 x9 x11).f0) ((rd_T41 x9 x11).f1) ((rd_T41 x9 x11).f2)).bind fun t424 => ((slices_Contains_int_int.f k t424 x1).bind fun t427 => (if t427 = true then (if x5.length < 17592186044416 then (impl_children.l0 k x1 (x5 ++ [x11]) x9 x10 (wrap64 (x11 + 1))) else (none)) else (impl_children.l0 k x1 x5 x9 x10 (wrap64 (x11 + 1)))))) else (none)) else (none)) else (some x5)
def impl_children.f (k : Nat) (l0 : List (S41)) (a1 : Int) : Option (List Int) := impl_children.l0 k a1 (([] : List Int)) l0 (l0.length : Int) 0
set_option maxHeartbeats 8000000 in
set_option maxRecDepth 100000 in
theorem impl_children.calls (k : Nat) (A0 : Option Addr) (c0 : Nat) (l0 : List (S41)) (a1 : Int) (r : List Int) (w : World) (hr0 : Kd.C k41 w A0 l0.length l0) (hc0 : l0.length ≤ c0) (h : impl_children.f k l0 a1 = some r) :
  Calls Tryz.prog 50 #[.slice A0 l0.length c0, .int .i64 a1] w fun e w' => ∃ v0_ : Value, e = .returned (v0_) ∧ Kd.R (Kd.int .i64) 3 w' w.heap.size (fun _ => True) v0_ r ∧ Below w.heap.size w w' := by
 have hu41 := Tryz.underlying41
 have HR0 := Aside0.mk hr0
 have HC0 := Aside0.mk hc0
 clear hr0 hc0
 have HB := Aside0.mk (Below.refl w.heap.size w)
 have H : (impl_children.l0 k a1 (([] : List Int)) l0 (l0.length : Int) 0) = some r := h
 clear h
 obtain ⟨y419, hy419⟩ : ∃ y_ : List Int, y_ = (([] : List Int)) := ⟨_, rfl⟩
 replace H : (impl_children.l0 k a1 y419 l0 (l0.length : Int) 0) = some r := by first | (rw [hy419]; with_reducible exact H) | (have H2_ := (Option.bind_some _ _).symm.trans H; rw [hy419]; with_reducible exact H2_) | (have H2_ := (Option.bind_some _ _).symm.trans H; with_reducible exact H2_) | with_reducible exact H | (rw [hy419]; exact H) | exact H
 have Ny419 := Aside0.mk hy419
 clear hy419
 have H' := Aside0.mk H
 clear H
 go_enter Tryz.func50, Tryz.ntmps50
 go_wp2_with (first | ((with_reducible refine gate_dst (N := 8) rfl ?_); refine Kd.R_lit (Kd.int .i64) _ 3 ?hg (N := 8) ?hd (xs := ([] : List Int)) (inner := []) (ok := fun _ => True) (okp := fun _ => True) ?hr ?hp (fun _ hk => hk) trivial (Below.refl _ _) (Nat.le_refl _) (by simp) ?_; (case hd => rfl); (case hg => rfl); (case hr => first | (go_simp; done) | (go_simp; rfl)); (case hp => exact (Reps.none _ _)); intro v420 w3 ho4 hb hg_ hnew_; clear hg_ hnew_; (first | rw [← Ny419.out] at ho4 | (simp only [Int.reduceToNat] at ho4; rw [← Ny419.out] at ho4)); have n0_ := Aside0.mk (Kd.R_lower ho4 (below_size kO)); have n1_ := kH HB hb; clear HB; have HO421 := n0_; have HB := n1_; clear n0_ n1_; clear hb ho4))
 go_loopg [5, 11] k (fun kq v5 v11 w' => ∃ (x5_1 : List Int) (x11_1 : Int), v11 = .int .i64 x11_1 ∧ Aside0 (impl_children.l0 kq a1 x5_1 l0 (l0.length : Int) x11_1 = some r) ∧ Aside0 (kq ≤ k) ∧ Aside0 (Kd.R (Kd.int .i64) 3 w' w.heap.size (fun _ => True) v5 x5_1) ∧ Aside0 (Below w.heap.size w w'))
 case atStart => exact ⟨(y419), (0), kY, H', ⟨Nat.le_refl _⟩, ⟨kW HO421⟩, kI⟩
 case round =>
  clear H'
  obtain ⟨x5_1, x11_1, rfl, HA, HK1, HO_5, HB⟩ := hrel
  cases gk with
  | zero => exact absurd HA.out (by simp [impl_children.l0])
  | succ k1 =>
   have H := HA.out
   clear HA
   simp only [impl_children.l0] at H
   by_cases c5 : x11_1 < (l0.length : Int)
   ·rw [if_pos c5] at H
    have c5b0 : decide (x11_1 < (l0.length : Int)) = true := decide_eq_true c5
    clear c5
    by_cases c6 : 0 ≤ x11_1
    ·rw [if_pos c6] at H
     have c6b0 : decide (0 ≤ x11_1) = true := decide_eq_true c6
     clear c6
     by_cases c7 : x11_1 < (l0.length : Int)
     ·rw [if_pos c7] at H
      have c7b0 : decide (x11_1 < (l0.length : Int)) = true := decide_eq_true c7
      clear c7
      replace H := Option.bind_eq_some_iff.mp H
      obtain ⟨t424, A80, H⟩ := H
      have A8 := Aside0.mk A80
      clear A80
      replace H := Option.bind_eq_some_iff.mp H
      obtain ⟨t427, A90, H⟩ := H
      have A9 := Aside0.mk A90
      clear A90
      by_cases c10 : t427 = true
      ·subst c10
       rw [if_pos rfl] at H
       by_cases c11 : x5_1.length < 17592186044416
       ·rw [if_pos c11] at H
        have LMc11 := Aside0.mk c11
        clear c11
        obtain ⟨y428, hy428⟩ : ∃ y_ : List Int, y_ = (x5_1 ++ [x11_1]) := ⟨_, rfl⟩
        replace H : (impl_children.l0 k1 a1 y428 l0 (l0.length : Int) (wrap64 (x11_1 + 1))) = some r := by first | (rw [hy428]; with_reducible exact H) | (have H2_ := (Option.bind_some _ _).symm.trans H; rw [hy428]; with_reducible exact H2_) | (have H2_ := (Option.bind_some _ _).symm.trans H; with_reducible exact H2_) | with_reducible exact H | (rw [hy428]; exact H) | exact H
        have Ny428 := Aside0.mk hy428
        clear hy428
        have H' := Aside0.mk H
        clear H
        have p422 : 0 ≤ (x11_1 : Int) := of_decide_eq_true (by first | (with_reducible assumption) | assumption)
        have q422 : x11_1 < (l0.length : Int) := of_decide_eq_true (by first | (with_reducible assumption) | assumption)
        obtain ⟨ad422, e422, hx422_0, hx422_1, hx422_2⟩ := at_T41 HR0.out x11_1 p422 q422
        cases e422
        replace hx422_0 := (HB.out.cell (World.block_lt_of_cell? w _ hx422_0)).trans hx422_0
        replace hx422_1 := (HB.out.cell (World.block_lt_of_cell? w _ hx422_1)).trans hx422_1
        replace hx422_2 := (HB.out.cell (World.block_lt_of_cell? w _ hx422_2)).trans hx422_2
        replace p422 := eq_true p422
        replace q422 := eq_true q422
        go_wp2_with (first | ((with_reducible refine gate_dst (N := 7) rfl ?_); refine box_event ?hg (N := 7) ?hd (cs := #[.int .i64 0, .int .i64 0, .int .i64 0]) (t := 41) ?hr ?_; (case hd => rfl); (case hg => rfl); (case hr => first | (go_simp; done) | (go_simp; rfl)); intro gb423 hg w12 hbox hb; have n0_ := Aside0.mk (Kd.R_below (kW HO_5) hb); have n1_ := kH HB hb; have n2_ := Aside0.mk (hbox); have n3_ := kG HB hg; have n4_ := kG HB hg; clear HO_5; clear HB; have HO_5 := n0_; have HB := n1_; have BK423 := n2_; have GW423 := n3_; have GE423 := n4_; clear n0_ n1_ n2_ n3_ n4_; clear hb hbox hg; have hcz13_0 : w12.cell? ⟨gb423, 0, none⟩ = some (.int .i64 0) := (blk_cell BK423.out 0).trans rfl; have hcz13_1 : w12.cell? ⟨gb423, 1, none⟩ = some (.int .i64 0) := (blk_cell BK423.out 1).trans rfl; have hcz13_2 : w12.cell? ⟨gb423, 2, none⟩ = some (.int .i64 0) := (blk_cell BK423.out 2).trans rfl; have hfz13_0 := blk_frozen BK423.out 0; have hfz13_1 := blk_frozen BK423.out 1; have hfz13_2 := blk_frozen BK423.out 2) | ((with_reducible refine gate_callee (f := 49) rfl ?_); refine kE (some 17) Tryz.func49 #[.agg #[.int .i64 ((rd_T41 l0 x11_1).f0), .int .i64 ((rd_T41 l0 x11_1).f1), .int .i64 ((rd_T41 l0 x11_1).f2)]] rfl ?_; (with_reducible refine (impl_Kin_parents.calls ((rd_T41 l0 x11_1).f0) ((rd_T41 l0 x11_1).f1) ((rd_T41 l0 x11_1).f2) t424 _ A8.out).mono ?_); rintro e w14 ⟨v425, rfl, ho0, hb⟩; refine ⟨_, rfl, ?_⟩; have n0_ := Aside0.mk (Kd.R_elder' (by (with_reducible repeat (first | apply Kd.R_alloc | apply Kd.R_drewN | apply Kd.R_drew)); exact (Kd.R_mono (Kd.R_far (p := ⟨gb423, 2, none⟩) (Kd.R_far (p := ⟨gb423, 1, none⟩) (Kd.R_far (p := ⟨gb423, 0, none⟩) (Kd.R_types HO_5.out BK423.out (by decide)) (fun _ hk => hk.2) (.int .i64 ((rd_T41 l0 x11_1).f0))) (fun _ hk => hk.2) (.int .i64 ((rd_T41 l0 x11_1).f1))) (fun _ hk => hk.2) (.int .i64 ((rd_T41 l0 x11_1).f2))) (fun _ h_ => h_.1))) (Kd.R_base ho0) hb); have n1_ := Aside0.mk (Kd.R_lower (Kd.R_new' ho0 (Kd.R_lt (by (with_reducible repeat (first | apply Kd.R_alloc | apply Kd.R_drewN | apply Kd.R_drew)); exact (Kd.R_mono (Kd.R_far (p := ⟨gb423, 2, none⟩) (Kd.R_far (p := ⟨gb423, 1, none⟩) (Kd.R_far (p := ⟨gb423, 0, none⟩) (Kd.R_types HO_5.out BK423.out (by decide)) (fun _ hk => hk.2) (.int .i64 ((rd_T41 l0 x11_1).f0))) (fun _ hk => hk.2) (.int .i64 ((rd_T41 l0 x11_1).f1))) (fun _ hk => hk.2) (.int .i64 ((rd_T41 l0 x11_1).f2))) (fun _ h_ => h_.1))))) (below_size kO)); have n2_ := Aside0.mk (blk_below (g := gb423) (o := .cells #[.int .i64 ((rd_T41 l0 x11_1).f0), .int .i64 ((rd_T41 l0 x11_1).f1), .int .i64 ((rd_T41 l0 x11_1).f2)] 41 (0, 0)) (by (with_reducible repeat (first | refine blk_drewN ?_ _ | refine blk_drew ?_ | refine blk_alloc ?_ _)); refine blk_put (cs := #[.int .i64 ((rd_T41 l0 x11_1).f0), .int .i64 ((rd_T41 l0 x11_1).f1), .int .i64 0]) ?_ 2 _ rfl; (with_reducible repeat (first | refine blk_drewN ?_ _ | refine blk_drew ?_ | refine blk_alloc ?_ _)); refine blk_put (cs := #[.int .i64 ((rd_T41 l0 x11_1).f0), .int .i64 0, .int .i64 0]) ?_ 1 _ rfl; (with_reducible repeat (first | refine blk_drewN ?_ _ | refine blk_drew ?_ | refine blk_alloc ?_ _)); refine blk_put (cs := #[.int .i64 0, .int .i64 0, .int .i64 0]) ?_ 0 _ rfl; (with_reducible repeat (first | refine blk_drewN ?_ _ | refine blk_drew ?_ | refine blk_alloc ?_ _)); exact BK423.out) hb); have n3_ := kH HB hb; clear HO_5; clear BK423; clear HB; have HO_5 := n0_; have HO426 := n1_; have BK423 := n2_; have HB := n3_; clear n0_ n1_ n2_ n3_; (try clear hb); (try clear ho0); obtain ⟨Ao15, co15, eo15⟩ := Kd.R_slice HO426.out; subst eo15) | ((with_reducible refine gate_callee (f := 37) rfl ?_); refine kE (some 19) Tryz.func37 #[.slice Ao15 t424.length co15, .int .i64 a1] rfl ?_; (with_reducible refine (slices_Contains_int_int.calls k1 _ _ t424 a1 true _ ?side1 ?side2 A9.out).mono ?_); (case side1 => exact kDo HO426); (case side2 => exact (Kd.R_reads' HO426.out).2.1); rintro e w' ⟨rfl, ⟨nd, rfl⟩⟩; refine ⟨_, rfl, ?_⟩) | ((with_reducible refine gate_builtin (b := .append) (xs := #[.tmp 20, .tmp 22]) rfl ?_); at_builtin; refine Kd.R_append (Kd.int .i64) (w0 := w) w.heap.size rfl (.tmp 20) (.tmp 22) 31 3 (.int .i64 0) 8 rfl Tryz.underlying31 info3 rfl (by decide) (by omega) u5 x5_1 x11_1 [.int .i64 x11_1] (fun k_ => some k_ ≠ (.slice Ao15 t424.length co15 : Value).ownBlock) (fun _ => False) rfl rfl ?aP (fun _ hk => hk.elim) ?aF ?aO ?aB ?aS ?aL ?_; (case aP => exact rfl); (case aB => exact kO); (case aF => exact (fun k_ hk => Kd.fresh' (Kd.R_lt (kW HO426)) k_ hk)); (case aO => exact (by (with_reducible repeat (first | apply Kd.R_alloc | apply Kd.R_drewN | apply Kd.R_drew)); exact Kd.R_mono HO_5.out (fun _ hk => hk.2))); (case aS => exact (below_size kO)); (case aL => have := LMc11.out; omega); intro v429 w16 ho hb hg hat; rw [← Ny428.out] at ho; have n0_ := Aside0.mk (blk_grown (g := gb423) (o := .cells #[.int .i64 ((rd_T41 l0 x11_1).f0), .int .i64 ((rd_T41 l0 x11_1).f1), .int .i64 ((rd_T41 l0 x11_1).f2)] 41 (0, 0)) kC hg (Kd.R_ne HO_5.out BK423.out (by decide))); have n1_ := Aside0.mk (Kd.R_after (ok := (fun _ => True)) (kW HO426) hg hat); have n2_ := Aside0.mk (hb); have n3_ := Aside0.mk (ho); clear BK423; clear HO426; clear HB; clear HO_5; have BK423 := n0_; have HO426 := n1_; have HB := n2_; have HO430 := n3_; clear n0_ n1_ n2_ n3_; clear ho hb hg hat))
        go_roundg k1
        case measure => have := HK1.out; omega
        case rel => exact ⟨(y428), (wrap64 (x11_1 + 1)), kY, H', ⟨by have := HK1.out; omega⟩, ⟨by (with_reducible repeat (first | apply Kd.R_alloc | apply Kd.R_drewN | apply Kd.R_drew)); exact Kd.R_mono HO430.out (fun _ hk => trivial)⟩, kI⟩
       ·rw [if_neg c11] at H
        exact absurd H (by simp)
      ·replace c10 := Bool.eq_false_iff.mpr c10
       subst c10
       rw [if_neg (show ¬ (false = true) by decide)] at H
       have H' := Aside0.mk H
       clear H
       have p422 : 0 ≤ (x11_1 : Int) := of_decide_eq_true (by first | (with_reducible assumption) | assumption)
       have q422 : x11_1 < (l0.length : Int) := of_decide_eq_true (by first | (with_reducible assumption) | assumption)
       obtain ⟨ad422, e422, hx422_0, hx422_1, hx422_2⟩ := at_T41 HR0.out x11_1 p422 q422
       cases e422
       replace hx422_0 := (HB.out.cell (World.block_lt_of_cell? w _ hx422_0)).trans hx422_0
       replace hx422_1 := (HB.out.cell (World.block_lt_of_cell? w _ hx422_1)).trans hx422_1
       replace hx422_2 := (HB.out.cell (World.block_lt_of_cell? w _ hx422_2)).trans hx422_2
       replace p422 := eq_true p422
       replace q422 := eq_true q422
       go_wp2_with (first | ((with_reducible refine gate_dst (N := 7) rfl ?_); refine box_event ?hg (N := 7) ?hd (cs := #[.int .i64 0, .int .i64 0, .int .i64 0]) (t := 41) ?hr ?_; (case hd => rfl); (case hg => rfl); (case hr => first | (go_simp; done) | (go_simp; rfl)); intro gb423 hg w17 hbox hb; have n0_ := Aside0.mk (Kd.R_below (kW HO_5) hb); have n1_ := kH HB hb; have n2_ := Aside0.mk (hbox); have n3_ := kG HB hg; have n4_ := kG HB hg; clear HO_5; clear HB; have HO_5 := n0_; have HB := n1_; have BK423 := n2_; have GW423 := n3_; have GE423 := n4_; clear n0_ n1_ n2_ n3_ n4_; clear hb hbox hg; have hcz18_0 : w17.cell? ⟨gb423, 0, none⟩ = some (.int .i64 0) := (blk_cell BK423.out 0).trans rfl; have hcz18_1 : w17.cell? ⟨gb423, 1, none⟩ = some (.int .i64 0) := (blk_cell BK423.out 1).trans rfl; have hcz18_2 : w17.cell? ⟨gb423, 2, none⟩ = some (.int .i64 0) := (blk_cell BK423.out 2).trans rfl; have hfz18_0 := blk_frozen BK423.out 0; have hfz18_1 := blk_frozen BK423.out 1; have hfz18_2 := blk_frozen BK423.out 2) | ((with_reducible refine gate_callee (f := 49) rfl ?_); refine kE (some 17) Tryz.func49 #[.agg #[.int .i64 ((rd_T41 l0 x11_1).f0), .int .i64 ((rd_T41 l0 x11_1).f1), .int .i64 ((rd_T41 l0 x11_1).f2)]] rfl ?_; (with_reducible refine (impl_Kin_parents.calls ((rd_T41 l0 x11_1).f0) ((rd_T41 l0 x11_1).f1) ((rd_T41 l0 x11_1).f2) t424 _ A8.out).mono ?_); rintro e w19 ⟨v425, rfl, ho0, hb⟩; refine ⟨_, rfl, ?_⟩; have n0_ := Aside0.mk (Kd.R_elder' (by (with_reducible repeat (first | apply Kd.R_alloc | apply Kd.R_drewN | apply Kd.R_drew)); exact (Kd.R_mono (Kd.R_far (p := ⟨gb423, 2, none⟩) (Kd.R_far (p := ⟨gb423, 1, none⟩) (Kd.R_far (p := ⟨gb423, 0, none⟩) (Kd.R_types HO_5.out BK423.out (by decide)) (fun _ hk => hk.2) (.int .i64 ((rd_T41 l0 x11_1).f0))) (fun _ hk => hk.2) (.int .i64 ((rd_T41 l0 x11_1).f1))) (fun _ hk => hk.2) (.int .i64 ((rd_T41 l0 x11_1).f2))) (fun _ h_ => h_.1))) (Kd.R_base ho0) hb); have n1_ := Aside0.mk (Kd.R_lower (Kd.R_new' ho0 (Kd.R_lt (by (with_reducible repeat (first | apply Kd.R_alloc | apply Kd.R_drewN | apply Kd.R_drew)); exact (Kd.R_mono (Kd.R_far (p := ⟨gb423, 2, none⟩) (Kd.R_far (p := ⟨gb423, 1, none⟩) (Kd.R_far (p := ⟨gb423, 0, none⟩) (Kd.R_types HO_5.out BK423.out (by decide)) (fun _ hk => hk.2) (.int .i64 ((rd_T41 l0 x11_1).f0))) (fun _ hk => hk.2) (.int .i64 ((rd_T41 l0 x11_1).f1))) (fun _ hk => hk.2) (.int .i64 ((rd_T41 l0 x11_1).f2))) (fun _ h_ => h_.1))))) (below_size kO)); have n2_ := Aside0.mk (blk_below (g := gb423) (o := .cells #[.int .i64 ((rd_T41 l0 x11_1).f0), .int .i64 ((rd_T41 l0 x11_1).f1), .int .i64 ((rd_T41 l0 x11_1).f2)] 41 (0, 0)) (by (with_reducible repeat (first | refine blk_drewN ?_ _ | refine blk_drew ?_ | refine blk_alloc ?_ _)); refine blk_put (cs := #[.int .i64 ((rd_T41 l0 x11_1).f0), .int .i64 ((rd_T41 l0 x11_1).f1), .int .i64 0]) ?_ 2 _ rfl; (with_reducible repeat (first | refine blk_drewN ?_ _ | refine blk_drew ?_ | refine blk_alloc ?_ _)); refine blk_put (cs := #[.int .i64 ((rd_T41 l0 x11_1).f0), .int .i64 0, .int .i64 0]) ?_ 1 _ rfl; (with_reducible repeat (first | refine blk_drewN ?_ _ | refine blk_drew ?_ | refine blk_alloc ?_ _)); refine blk_put (cs := #[.int .i64 0, .int .i64 0, .int .i64 0]) ?_ 0 _ rfl; (with_reducible repeat (first | refine blk_drewN ?_ _ | refine blk_drew ?_ | refine blk_alloc ?_ _)); exact BK423.out) hb); have n3_ := kH HB hb; clear HO_5; clear BK423; clear HB; have HO_5 := n0_; have HO426 := n1_; have BK423 := n2_; have HB := n3_; clear n0_ n1_ n2_ n3_; (try clear hb); (try clear ho0); obtain ⟨Ao20, co20, eo20⟩ := Kd.R_slice HO426.out; subst eo20) | ((with_reducible refine gate_callee (f := 37) rfl ?_); refine kE (some 19) Tryz.func37 #[.slice Ao20 t424.length co20, .int .i64 a1] rfl ?_; (with_reducible refine (slices_Contains_int_int.calls k1 _ _ t424 a1 false _ ?side1 ?side2 A9.out).mono ?_); (case side1 => exact kDo HO426); (case side2 => exact (Kd.R_reads' HO426.out).2.1); rintro e w' ⟨rfl, ⟨nd, rfl⟩⟩; refine ⟨_, rfl, ?_⟩))
       go_roundg k1
       case measure => have := HK1.out; omega
       case rel => exact ⟨(x5_1), (wrap64 (x11_1 + 1)), kY, H', ⟨by have := HK1.out; omega⟩, ⟨by (with_reducible repeat (first | apply Kd.R_alloc | apply Kd.R_drewN | apply Kd.R_drew)); exact Kd.R_mono HO_5.out (fun _ hk => trivial)⟩, kI⟩
     ·rw [if_neg c7] at H
      exact absurd H (by simp)
    ·rw [if_neg c6] at H
     exact absurd H (by simp)
   ·rw [if_neg c5] at H
    have c5b0 : decide (x11_1 < (l0.length : Int)) = false := decide_eq_false c5
    clear c5
    obtain rfl := Option.some.inj H
    go_wp2
    go_ret
    exact ⟨_, kZ, kW HO_5, kO⟩

end Go.Proofs.YtllihaahppelhaaGreat.P
namespace Go.Proofs.YtllihaahppelhaaGreat.P
open Go.RowKit Go.Proofs.YtllihaahppelhaaGreatW.PrintWords Go.Proofs.YtllihaahppelhaaGreatW.PrintLast Go.Proofs.YtllihaahppelhaaGreatW.PrintMore
attribute [local go_sem] max2_int min2_int max_two min_two max_three min_three max_four min_four   -- for this text's walks alone
set_option linter.unusedVariables false
set_option linter.unusedSimpArgs false

/-! ### impl_LineDown: function 16, by hand -/
-- IMPORT Derived.Test.YtllihaahppelhaaGreatHlp
-- IMPORT Derived.Shelf.Abstract
-- IMPORT Derived.BigQuiet
def impl_LineDown.ps (l0 : List S41) (i : Int) : List Int := [(rd_T41 l0 i).f1, (rd_T41 l0 i).f2].filter fun x => !decide (x < 0)
def impl_LineDown.nx (l0 : List S41) (x : Int) : Option (List Int) :=
  if 0 ≤ x ∧ x < (l0.length : Int) then some (impl_LineDown.ps l0 x) else none
def impl_LineDown.pk (far : List Int) (d : Int) (c : Int) : Bool := decide (rd far c = d)
def impl_LineDown.lp (ch : Int → Option (List Int)) (far : List Int) (b : Int) : Nat → Int → List Int → Option (List Int)
  | 0, _, _ => none
  | k + 1, at_, out => if at_ = b then some out else (ch at_).bind fun ls =>
    if ((0 ≤ at_ ∧ at_ < (far.length : Int)) ∧ (0 ≤ rd far at_ ∧ rd far at_ ≤ 100000) ∧ out.length < 100000) ∧ (∀ c ∈ ls, 0 ≤ c ∧ c < (far.length : Int)) ∧ 0 ≤ Hlp.fidx (impl_LineDown.pk far (rd far at_ - 1)) ls then impl_LineDown.lp ch far b k (rd ls (Hlp.fidx (impl_LineDown.pk far (rd far at_ - 1)) ls)) (out ++ [rd ls (Hlp.fidx (impl_LineDown.pk far (rd far at_ - 1)) ls)]) else none
set_option maxHeartbeats 4000000 in
set_option maxRecDepth 100000 in
theorem impl_LineDown.clo (A0 : Option Addr) (c0 : Nat) (l0 : List S41) (x : Int) (r : List Int) (B1 : Nat) (W : World) (h1 : W.cell? ⟨B1, 0, none⟩ = some (.slice A0 l0.length c0)) (hr0 : Kd.C k41 W A0 l0.length l0) (h : impl_LineDown.nx l0 x = some r) :
    Calls Tryz.prog 48 #[.int .i64 x, .pointer (some ⟨B1, 0, none⟩)] W fun e w' => ∃ v : Value, e = .returned v ∧ Kd.R (Kd.int .i64) 3 w' W.heap.size (fun _ => True) v r ∧ Below W.heap.size W w' := by
  unfold impl_LineDown.nx at h
  have hi : 0 ≤ x ∧ x < (l0.length : Int) := by
    split at h
    · assumption
    · cases h
  rw [if_pos hi] at h
  obtain rfl := Option.some.inj h
  clear h
  obtain ⟨m, rfl⟩ := Int.eq_ofNat_of_zero_le hi.1
  have hm : m < l0.length := by omega
  obtain ⟨ad, rfl, g0, g1, g2⟩ := at_T41 hr0 (m : Int) hi.1 hi.2
  rw [Int.toNat_natCast] at g0 g1 g2
  have hpar := fun W => impl_Kin_parents.calls (rd_T41 l0 (m : Int)).f0 (rd_T41 l0 (m : Int)).f1 (rd_T41 l0 (m : Int)).f2 (impl_LineDown.ps l0 (m : Int)) W rfl
  generalize impl_LineDown.ps l0 (m : Int) = ps at hpar ⊢
  have HP : Aside0 _ := ⟨hpar⟩
  generalize (rd_T41 l0 (m : Int)).f0 = x0 at g0 HP
  generalize (rd_T41 l0 (m : Int)).f1 = x1 at g1 HP
  generalize (rd_T41 l0 (m : Int)).f2 = x2 at g2 HP
  clear hpar hr0 hi
  go_enter Tryz.func48, Tryz.ntmps48
  go_wp2_with (go_at_call 49; refine (HP.out _).mono ?_; rintro e w1 ⟨v1, rfl, hR1, hb1⟩)
  go_ret
  exact ⟨_, rfl, hR1, hb1⟩
set_option maxHeartbeats 4000000 in
set_option maxRecDepth 100000 in
theorem impl_LineDown.pck (ad : Addr) (c0 : Nat) (far : List Int) (x a : Int) (B1 B2 : Nat) (W : World) (h1 : W.cell? ⟨B1, 0, none⟩ = some (.slice (some ad) far.length c0)) (h2 : W.cell? ⟨B2, 0, none⟩ = some (.int .i64 a)) (hr0 : Kd.C (Kd.int .i64) W (some ad) far.length far) (hx : 0 ≤ x ∧ x < (far.length : Int)) (ha : 0 ≤ a ∧ a < (far.length : Int)) (hd : 0 ≤ rd far a ∧ rd far a ≤ 100000) :
    Calls Tryz.prog 52 #[.int .i64 x, .pointer (some ⟨B1, 0, none⟩), .pointer (some ⟨B2, 0, none⟩)] W fun e w' => e = .returned (.bool (impl_LineDown.pk far (rd far a - 1) x)) ∧ Below W.heap.size W w' := by
  obtain ⟨x, rfl⟩ := Int.eq_ofNat_of_zero_le hx.1
  obtain ⟨a, rfl⟩ := Int.eq_ofNat_of_zero_le ha.1
  have hxn : x < far.length := by omega
  have han : a < far.length := by omega
  have hxz : (x : Int) < (far.length : Int) := hx.2
  have haz : (a : Int) < (far.length : Int) := ha.2
  have gx : W.cell? (ad.add x) = some (.int .i64 (rd far (x : Int))) := by
    obtain ⟨ad', e, hc⟩ := Hlp.int_at hr0 x hxn
    obtain rfl := Option.some.inj e
    rw [hc]
    simp [rd, List.getD_eq_getElem?_getD, List.getElem?_eq_getElem hxn]
  have ga : W.cell? (ad.add a) = some (.int .i64 (rd far (a : Int))) := by
    obtain ⟨ad', e, hc⟩ := Hlp.int_at hr0 a han
    obtain rfl := Option.some.inj e
    rw [hc]
    simp [rd, List.getD_eq_getElem?_getD, List.getElem?_eq_getElem han]
  unfold impl_LineDown.pk
  generalize rd far (x : Int) = dx at gx ⊢
  generalize rd far (a : Int) = da at ga hd ⊢
  obtain ⟨hd1, hd2⟩ := hd
  clear hr0 hx ha
  go_enter Tryz.func52, Tryz.ntmps52
  go_wp2_with fail
  go_quiet (fail)
  go_wp2
  go_ret
  exact ⟨by by_cases h : dx = da - 1 <;> simp [h], ⟨rfl, rfl, rfl, Nat.le_refl _, fun _ _ => rfl⟩⟩
def impl_LineDown.f (k : Nat) (l0 : List S41) (a1 a2 : Int) : Option (List Int × Bool) :=
  (impl_hasKin.f k l0 [a1, a2]).bind fun t => if t = true then (impl_steps.g (impl_LineDown.nx l0) k l0.length a2).bind fun far => if 0 ≤ a1 ∧ a1 < (far.length : Int) then (if rd far a1 < 0 then some ([], false) else (impl_LineDown.lp (impl_children.f k l0) far a2 k a1 [a1]).bind fun out => some (out, true)) else none else some ([], false)
/-- What the row (in slot 9) and the place (in block B10) are, between two rounds. -/
structure impl_LineDown.St (w wr : World) (A9 : Option Addr) (c9 : Nat) (B10 : Nat) (out : List Int) (a : Int) : Prop where
  row : Kd.R (Kd.int .i64) 3 wr w.heap.size (fun _ => True) (.slice A9 out.length c9) out
  cel : wr.cell? ⟨B10, 0, none⟩ = some (.int .i64 a)
  fre : wr.frozen? ⟨B10, 0, none⟩ = false
  ge : w.heap.size ≤ B10
  lt : B10 < wr.heap.size
  ne : (Value.slice A9 out.length c9).ownBlock ≠ some B10
  bel : Below w.heap.size w wr
section
variable {w wr W : World} {A9 : Option Addr} {c9 B10 : Nat} {out : List Int} {a : Int}
theorem impl_LineDown.St.next (h : impl_LineDown.St w wr A9 c9 B10 out a) (hb : Below wr.heap.size wr W) : impl_LineDown.St w W A9 c9 B10 out a :=
  ⟨Kd.R_below h.row hb, pw_cell_below hb h.cel, (hb.frozen h.lt).trans h.fre, h.ge, Nat.lt_of_lt_of_le h.lt hb.size, h.ne, below_step h.bel hb⟩
theorem impl_LineDown.gset (W : World) (b : Nat) (v : Value) : W.grownBy (W.setCell ⟨b, 0, none⟩ v) (some b) :=
  ⟨rfl, rfl, rfl, by simp [World.setCell], fun k _ hk => Below.heap_setCell _ _ _ k (fun e => hk (by rw [e]))⟩
theorem impl_LineDown.St.put (h : impl_LineDown.St w wr A9 c9 B10 out a) (v : Int) : impl_LineDown.St w (wr.setCell ⟨B10, 0, none⟩ (.int .i64 v)) A9 c9 B10 out v :=
  ⟨Kd.R_grown1 h.row rfl (impl_LineDown.gset _ _ _) (fun e => h.ne e.symm), by have := h.cel; go_simp, by have := h.fre; go_simp, h.ge, by have := h.lt; simpa [World.setCell] using this, h.ne, below_set h.bel h.ge⟩
theorem impl_LineDown.St.app (h : impl_LineDown.St w wr A9 c9 B10 out a) (y : Int) (v1 : Value) (hR : Kd.R (Kd.int .i64) 3 W w.heap.size (fun _ => True) v1 (out ++ [y])) (hB : Below w.heap.size w W) (hg : wr.grownBy W (Value.slice A9 out.length c9).ownBlock)
    (hat : v1.ownBlock = (Value.slice A9 out.length c9).ownBlock ∨ ∃ b, v1.ownBlock = some b ∧ wr.heap.size ≤ b) : ∃ A c, v1 = .slice A (out ++ [y]).length c ∧ impl_LineDown.St w W A c B10 (out ++ [y]) a := by
  obtain ⟨A, c, rfl⟩ := Kd.R_slice hR
  refine ⟨A, c, rfl, hR, ?_, ?_, h.ge, Nat.lt_of_lt_of_le h.lt hg.size, ?_, hB⟩
  · exact (World.cell?_of_block (w := wr) (hg.block B10 h.lt (fun e => h.ne e.symm))).trans h.cel
  · exact (World.frozen?_of_block (w := wr) (hg.block B10 h.lt (fun e => h.ne e.symm))).trans h.fre
  · rcases hat with hat | ⟨b, hb, hle⟩
    · rw [hat]; exact h.ne
    · rw [hb]
      intro e
      injection e with e
      have := h.lt
      omega
theorem impl_LineDown.St.fresh (h : impl_LineDown.St w wr A9 c9 B10 out a) (v : Int) : impl_LineDown.St w (wr.alloc (.cells #[.int .i64 v] 3)) A9 c9 wr.heap.size out v := by
  refine ⟨Kd.R_alloc h.row _, by simp, by simp, h.bel.size, by simp, ?_, below_alloc h.bel _⟩
  intro e
  have := Kd.R_lt h.row _ e
  omega
end
/-- What stands as it is from the table on: the family, its box, the table, its box (in block B8). -/
structure impl_LineDown.Fx (W : World) (A0 : Option Addr) (c0 : Nat) (l0 : List S41) (B1 : Nat) (ad : Addr) (cc : Nat) (far : List Int) (B8 : Nat) : Prop where
  fam : Kd.C k41 W A0 l0.length l0
  box : W.cell? ⟨B1, 0, none⟩ = some (.slice A0 l0.length c0)
  tab : Kd.C (Kd.int .i64) W (some ad) far.length far
  tbx : W.cell? ⟨B8, 0, none⟩ = some (.slice (some ad) far.length cc)
theorem impl_LineDown.Fx.next {W W' : World} {A0 : Option Addr} {c0 : Nat} {l0 : List S41} {B1 : Nat} {ad : Addr} {cc : Nat} {far : List Int} {B8 : Nat} (h : impl_LineDown.Fx W A0 c0 l0 B1 ad cc far B8) (hb : Below W.heap.size W W') : impl_LineDown.Fx W' A0 c0 l0 B1 ad cc far B8 :=
  ⟨Kd.C_below h.fam hb, pw_cell_below hb h.box, Kd.C_below h.tab hb, pw_cell_below hb h.tbx⟩
set_option maxHeartbeats 8000000 in
set_option maxRecDepth 100000 in
theorem impl_LineDown.calls (k : Nat) (A0 : Option Addr) (c0 : Nat) (l0 : List S41) (a1 a2 : Int) (r1 : List Int) (r2 : Bool) (w : World) (hr0 : Kd.C k41 w A0 l0.length l0) (hc0 : l0.length ≤ c0) (h : impl_LineDown.f k l0 a1 a2 = some (r1, r2)) :
    Calls Tryz.prog 16 #[.slice A0 l0.length c0, .int .i64 a1, .int .i64 a2] w fun e w' => ∃ v0_ : Value, e = .returned (.tuple #[v0_, .bool r2]) ∧ Kd.R (Kd.int .i64) 3 w' w.heap.size (fun _ => True) v0_ r1 ∧ Below w.heap.size w w' := by
  unfold impl_LineDown.f at h
  obtain ⟨t, ht, h⟩ := Option.bind_eq_some_iff.1 h
  obtain ⟨W1, hW1⟩ : ∃ W1, W1 = w.alloc (.cells #[.slice A0 l0.length c0] 24) := ⟨_, rfl⟩
  have hs1 : W1.heap.size = w.heap.size + 1 := by rw [hW1]; simp
  have hb1 : Below w.heap.size w W1 := by rw [hW1]; exact (Below.refl _ w).alloc (Nat.le_refl _) _
  have hbox : W1.cell? ⟨w.heap.size, 0, none⟩ = some (.slice A0 l0.length c0) := by rw [hW1]; simp
  have hb2 : Below W1.heap.size W1 (W1.alloc (.cells #[.int .i64 a1, .int .i64 a2] 3)) := (Below.refl _ W1).alloc (Nat.le_refl _) _
  have hlit := own_lit W1 W1.heap.size 3 .i64 [a1, a2] (Nat.le_refl _) (by simp)
  have hC2 : Kd.C (Kd.int .i64) (W1.alloc (.cells #[.int .i64 a1, .int .i64 a2] 3)) (some ⟨W1.heap.size, 0, none⟩) ([a1, a2] : List Int).length [a1, a2] := Kd.C_of_reads (d := (0 : Int)) (h1 := fun _ => rfl) (own_reads' hlit)
  have hkin := impl_hasKin.calls k A0 c0 l0 (some ⟨W1.heap.size, 0, none⟩) 2 [a1, a2] t (W1.alloc (.cells #[.int .i64 a1, .int .i64 a2] 3)) (Kd.C_below hr0 (below_step hb1 hb2)) hc0 hC2 (by simp) ht
  have HK : Aside0 (Calls Tryz.prog 31 #[.slice A0 l0.length c0, .slice (some ⟨w.heap.size + 1, 0, none⟩) 2 2] ((w.alloc (.cells #[.slice A0 l0.length c0] 24)).alloc (.cells #[.int .i64 a1, .int .i64 a2] 3)) fun e w' => e = .returned (.bool t) ∧ w'.cell? ⟨w.heap.size, 0, none⟩ = some (.slice A0 l0.length c0) ∧ Aside0 (Below W1.heap.size W1 w')) := ⟨by
    rw [← hW1, ← hs1]
    exact hkin.mono fun e w' he => ⟨he.1, pw_cell_below (below_step hb2 he.2) hbox, ⟨below_step hb2 he.2⟩⟩⟩
  clear hkin hC2 hlit hb2 ht
  have hr0' := Kd.C_below hr0 hb1
  cases t with
  | false =>
    rw [if_neg (by simp)] at h
    obtain ⟨rfl, rfl⟩ := Prod.mk.inj (Option.some.inj h)
    clear h hr0 hc0 hr0'
    have HB1 := Aside0.mk hb1
    clear hb1 hbox hs1 hW1
    go_enter Tryz.func16, Tryz.ntmps16
    go_wp2_with (go_at_call 31; refine HK.out.mono ?_; rintro e w' ⟨rfl, hc, hb⟩)
    go_ret2
    exact ⟨_, rfl, Kd.R_nil _ _ _ _ _, below_step HB1.out hb.out⟩
  | true =>
    rw [if_pos rfl] at h
    obtain ⟨far, hfar, h⟩ := Option.bind_eq_some_iff.1 h
    have hi : 0 ≤ a1 ∧ a1 < (far.length : Int) := by
      split at h
      · assumption
      · cases h
    rw [if_pos hi] at h
    obtain ⟨a, rfl⟩ := Int.eq_ofNat_of_zero_le hi.1
    have hal : a < far.length := by omega
    have halz : (a : Int) < (far.length : Int) := hi.2
    have eg : ∀ args w, (callFunc 48 args).run Tryz.prog w = .ok (.enter 48 args) w := enters_of Tryz.func48 (by kernel_rfl) rfl
    have HST : Aside0 (∀ W, Below W1.heap.size W1 W → Calls Tryz.prog 47 #[.slice A0 l0.length c0, .int .i64 a2, .func (.func 48) #[] #[.pointer (some ⟨w.heap.size, 0, none⟩)]] W fun e w' => ∃ ad cc, e = .returned (.slice (some ad) far.length cc) ∧ w'.cell? (ad.add a) = some (.int .i64 (rd far (a : Int))) ∧
        Aside0 (Below w.heap.size w w' ∧ Kd.C k41 w' A0 l0.length l0 ∧ w'.cell? ⟨w.heap.size, 0, none⟩ = some (.slice A0 l0.length c0) ∧ Kd.C (Kd.int .i64) w' (some ad) far.length far)) := ⟨fun W hW =>
      (impl_steps.any (impl_LineDown.nx l0) k 48 #[.pointer (some ⟨w.heap.size, 0, none⟩)] eg A0 l0.length c0 a2 far W (fun x ks hx W' hW' => impl_LineDown.clo A0 c0 l0 x ks w.heap.size W' (pw_cell_below (below_step hW hW') hbox) (Kd.C_below hr0' (below_step hW hW')) hx) hfar).mono fun e w' he => by
        obtain ⟨v, rfl, hR, hb⟩ := he
        obtain ⟨A, cc, rfl, _, hC⟩ := Kd.R_reads hR
        obtain ⟨ad, rfl, hcell⟩ := Hlp.int_at hC a hal
        have hB := below_step hW hb
        refine ⟨ad, cc, rfl, ?_, ⟨below_step hb1 hB, Kd.C_below hr0' hB, pw_cell_below hB hbox, hC⟩⟩
        rw [hcell]
        simp [rd, List.getD_eq_getElem?_getD, List.getElem?_eq_getElem hal]⟩
    generalize hd0 : rd far (a : Int) = d at h HST
    clear hfar hr0 hr0' hb1 hbox hs1 hi eg hW1
    by_cases hd : d < 0
    · rw [if_pos hd] at h
      obtain ⟨rfl, rfl⟩ := Prod.mk.inj (Option.some.inj h)
      clear h hd0
      go_enter Tryz.func16, Tryz.ntmps16
      go_wp2_with (first | (go_at_call 31; refine HK.out.mono ?_; rintro e w' ⟨rfl, hc, hb⟩) | (go_at_call 47; refine (HST.out _ hb.out).mono ?_; rintro e w2 ⟨ad, cc, rfl, hcd, hb3⟩; have hcd3 : (w2.alloc (.cells #[.slice (some ad) far.length cc] 31)).cell? (ad.add a) = some (.int .i64 d) := pw_cell_below ((Below.refl _ _).alloc (Nat.le_refl _) _) hcd))
      go_ret2
      exact ⟨_, rfl, Kd.R_nil _ _ _ _ _, below_alloc hb3.out.1 _⟩
    · rw [if_neg hd] at h
      obtain ⟨r, hl, h⟩ := Option.bind_eq_some_iff.1 h
      obtain ⟨rfl, rfl⟩ := Prod.mk.inj (Option.some.inj h)
      have HH := Aside0.mk hl
      have HC0 := Aside0.mk hc0
      clear h hl hd0 hc0
      go_enter Tryz.func16, Tryz.ntmps16
      go_wp2_with (first | (go_at_call 31; refine HK.out.mono ?_; rintro e w' ⟨rfl, hc, hb⟩) | (go_at_call 47; refine (HST.out _ hb.out).mono ?_; rintro e w2 ⟨ad, cc, rfl, hcd, hb3⟩; have hcd3 : (w2.alloc (.cells #[.slice (some ad) far.length cc] 31)).cell? (ad.add a) = some (.int .i64 d) := pw_cell_below ((Below.refl _ _).alloc (Nat.le_refl _) _) hcd))
      obtain ⟨w5, hw5⟩ : ∃ w5, w5 = w2.alloc (.cells #[.slice (some ad) far.length cc] 31) := ⟨_, rfl⟩
      have hs5 : w5.heap.size = w2.heap.size + 1 := by rw [hw5]; simp
      have HFX : Aside0 (impl_LineDown.Fx w5 A0 c0 l0 w.heap.size ad cc far w2.heap.size ∧ Below w.heap.size w w5) := ⟨by
        obtain ⟨h1, h2, h3, h4⟩ := hb3.out
        have hb : Below w2.heap.size w2 w5 := by rw [hw5]; exact (Below.refl _ _).alloc (Nat.le_refl _) _
        exact ⟨⟨Kd.C_below h2 hb, pw_cell_below hb h3, Kd.C_below h4 hb, by rw [hw5]; simp⟩, below_step h1 hb⟩⟩
      rw [← hw5]
      have HS0 := Aside0.mk (show impl_LineDown.St w5 ((w5.alloc (.cells #[.int .i64 (a : Int)] 3)).alloc (.cells #[.int .i64 (a : Int)] 3)) (some ⟨w2.heap.size + 1, 0, none⟩) 1 (w2.heap.size + 1 + 1) [(a : Int)] (a : Int) from by
        have hl := own_lit w5 w5.heap.size 3 .i64 [(a : Int)] (Nat.le_refl _) (by simp)
        rw [hs5] at hl
        exact ⟨Kd.R_alloc (Kd.R_of_own (by rw [hs5]; simpa [encs, nums] using hl) (fun _ _ => trivial)) _, by simp [← hs5], by simp [← hs5], by omega, by simp; omega, by simp [Value.ownBlock], below_alloc (below_alloc (Below.refl _ _) _) _⟩)
      generalize w2.heap.size = B8 at HFX HS0
      clear hcd hcd3 hb3 hb HK HST hs5 hc
      clear hw5
      go_loopg [9, 10] k (fun gg s9 s10 wr => ∃ (out : List Int) (at_ : Int) (A9 : Option Addr) (c9 B10 : Nat), s9 = .slice A9 out.length c9 ∧ s10 = .pointer (some ⟨B10, 0, none⟩) ∧ Aside0 (impl_LineDown.lp (impl_children.f k l0) far a2 gg at_ out = some r) ∧ Aside0 (impl_LineDown.St w5 wr A9 c9 B10 out at_))
      case atStart => exact ⟨_, _, _, _, _, rfl, rfl, HH, HS0⟩
      case round =>
        obtain ⟨out, at_, A9, c9, B10, rfl, rfl, HL, HS⟩ := hrel
        clear HS0 HH
        cases gk with
        | zero => exact absurd HL.out (by simp [impl_LineDown.lp])
        | succ kf =>
        have hl := HL.out
        simp only [impl_LineDown.lp] at hl
        have hcel := HS.out.cel
        have hfx := HFX.out.1.next HS.out.bel
        have hbox := hfx.box
        by_cases hi : at_ = a2
        · subst hi
          rw [if_pos rfl] at hl
          obtain rfl := Option.some.inj hl
          clear hl
          go_wp2
          go_ret2
          exact ⟨_, rfl, Kd.R_lower HS.out.row HFX.out.2.size, below_then HFX.out.2 HFX.out.2.size HS.out.bel⟩
        · rw [if_neg hi] at hl
          obtain ⟨ls, hls, hl⟩ := Option.bind_eq_some_iff.1 hl
          have hq : ((0 ≤ at_ ∧ at_ < (far.length : Int)) ∧ (0 ≤ rd far at_ ∧ rd far at_ ≤ 100000) ∧ out.length < 100000) ∧ (∀ c ∈ ls, 0 ≤ c ∧ c < (far.length : Int)) ∧ 0 ≤ Hlp.fidx (impl_LineDown.pk far (rd far at_ - 1)) ls := by
            split at hl
            · assumption
            · cases hl
          rw [if_pos hq] at hl
          obtain ⟨⟨q1, q2, q3⟩, q4, q5⟩ := hq
          have hix := Hlp.fidx_bd (impl_LineDown.pk far (rd far at_ - 1)) ls
          generalize hm : Hlp.fidx (impl_LineDown.pk far (rd far at_ - 1)) ls = m at hl q5 hix
          obtain ⟨m, rfl⟩ := Int.eq_ofNat_of_zero_le q5
          have hml : m < ls.length := by omega
          have hmlz : (m : Int) < (ls.length : Int) := hix.2
          have eg2 : ∀ args w, (callFunc 52 args).run Tryz.prog w = .ok (.enter 52 args) w := enters_of Tryz.func52 (by kernel_rfl) rfl
          have H48 : Aside0 (Calls Tryz.prog 50 #[.slice A0 l0.length c0, .int .i64 at_] wr fun e w6 => ∃ A5 c5, e = .returned (.slice A5 ls.length c5) ∧ w6.cell? ⟨B10, 0, none⟩ = some (.int .i64 at_) ∧ Aside0 (Kd.C (Kd.int .i64) w6 A5 ls.length ls ∧ Below wr.heap.size wr w6)) :=
            ⟨(impl_children.calls k A0 c0 l0 at_ ls wr hfx.fam HC0.out hls).mono fun e w6 he => by
              obtain ⟨v, rfl, hR, hb⟩ := he
              obtain ⟨A5, c5, rfl, _, hC⟩ := Kd.R_reads hR
              exact ⟨A5, c5, rfl, pw_cell_below hb hcel, ⟨hC, hb⟩⟩⟩
          have H51 : Aside0 (∀ A5 c5 w6, Kd.C (Kd.int .i64) w6 A5 ls.length ls ∧ Below wr.heap.size wr w6 → Calls Tryz.prog 51 #[.slice A5 ls.length c5, .func (.func 52) #[] #[.pointer (some ⟨B8, 0, none⟩), .pointer (some ⟨B10, 0, none⟩)]] w6 fun e w7 => ∃ ad5, e = .returned (.int .i64 (m : Int)) ∧ A5 = some ad5 ∧ w7.cell? (ad5.add m) = some (.int .i64 (rd ls (m : Int))) ∧ Aside0 (Below wr.heap.size wr w7)) := ⟨fun A5 c5 w6 ⟨hC, hB⟩ => by
            have h6 := hfx.next hB
            refine (slices_IndexFunc_int_int.any (impl_LineDown.pk far (rd far at_ - 1)) 52 #[.pointer (some ⟨B8, 0, none⟩), .pointer (some ⟨B10, 0, none⟩)] eg2 A5 c5 ls w6 hC (fun x hx W hW => impl_LineDown.pck ad cc far x at_ B8 B10 W (h6.next hW).tbx (pw_cell_below hW (pw_cell_below hB hcel)) (h6.next hW).tab (q4 x hx) q1 q2)).mono ?_
            rintro e w7 ⟨rfl, hb7⟩
            obtain ⟨ad5, rfl, hcell⟩ := Hlp.int_at (Kd.C_below hC hb7) m hml
            refine ⟨ad5, by rw [hm], rfl, ?_, ⟨below_step hB hb7⟩⟩
            rw [hcell]
            simp [rd, List.getD_eq_getElem?_getD, List.getElem?_eq_getElem hml]⟩
          generalize rd ls (m : Int) = x at hl H51
          have HHL := Aside0.mk hl
          have HQ3 := Aside0.mk q3
          clear hl hls hm q1 q2 q3 q4 q5 hix hml HL eg2 hfx
          go_wp2_with (first | (go_at_call 50; refine H48.out.mono ?_; rintro e w6 ⟨A5, c5, rfl, hcel6, HB6⟩; clear H48) | (go_at_call 51; refine (H51.out _ _ _ HB6.out).mono ?_; rintro e w7 ⟨ad5, rfl, rfl, hcx, HB7⟩; clear H51; have HS7 := Aside0.mk (HS.out.next HB7.out); have hfre := HS7.out.fre; have hcel7 := HS7.out.cel; have HSP := Aside0.mk (HS7.out.put x)) |
            ((with_reducible refine gate_builtin (b := .append) (xs := #[.tmp 42, .tmp 44]) rfl ?_); at_builtin; refine Kd.R_append (Kd.int .i64) (w0 := w5) w5.heap.size rfl (.tmp 42) (.tmp 44) 31 3 (.int .i64 0) 8 rfl Tryz.underlying31 info3 rfl (by decide) (by omega) (.slice A9 out.length c9) out x [.int .i64 x] (fun _ => True) (fun _ => False) rfl (by first | (go_simp; done) | (go_simp; rfl)) rfl (fun _ hk => hk.elim) (fun _ _ => trivial) HSP.out.row HSP.out.bel HSP.out.bel.size (by have := HQ3.out; omega) ?_; intro v3 w3 ho hb hg hat; obtain ⟨A8, c8, e8, hs8⟩ := HSP.out.app x v3 ho hb hg hat; subst e8; have HS8 := Aside0.mk hs8; clear ho hb hg hat hs8; have hcel8 := HS8.out.cel))
          go_roundg kf
          case measure => omega
          case rel => exact ⟨_, x, A8, c8, _, (by rw [List.length_append]; rfl), rfl, HHL, ⟨HS8.out.fresh x⟩⟩

end Go.Proofs.YtllihaahppelhaaGreat.P
