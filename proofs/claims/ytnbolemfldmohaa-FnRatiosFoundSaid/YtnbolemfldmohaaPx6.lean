/- Calls of the functions of the given program return what the plain Lean functions of the same names return; and a row of a law out of its pure statement. Written by a program of this session out of the translation; Lean checks it. No condition. -/
import Derived.Test.YtnbolemfldmohaaPx0
import Derived.Test.YtnbolemfldmohaaCt
import Derived.Test.YtnbolemfldmohaaPx1
import Derived.Test.YtnbolemfldmohaaPx2
import Derived.Test.YtnbolemfldmohaaPx3
import Derived.Test.YtnbolemfldmohaaPx4
import Derived.Test.YtnbolemfldmohaaPx5
namespace Go.Proofs.Ytnbolemfldmohaa.P
open Go.RowKit Go.Proofs.YtnbolemfldmohaaW.PrintWords Go.Proofs.YtnbolemfldmohaaW.PrintLast Go.Proofs.YtnbolemfldmohaaW.PrintMore
attribute [local go_sem] max2_int min2_int max_two min_two max_three min_three max_four min_four   -- for this text's walks alone
set_option linter.unusedVariables false
set_option linter.unusedSimpArgs false

attribute [local go_sem high] eqA43
/-! ### laws_FnRatiosFound: function 8 -/
mutual
def laws_FnRatiosFound.j0 : Nat → List Int → Int → Int → Int → Int → Bool → Int → Bool → Int → Int → Int → Int → Bool → Int → Int → Int → Int → Bool → Bool → Int → Int → Int → Int → Int → Int → Option (Bool)
 | 0, _, _, _, _, _, _, _, _, _, _, _, _, _, _, _, _, _, _, _, _, _, _, _, _, _ => none
 | k + 1, x1, x5, x6, x8, x9, x10, x14, x15, x18, x20, x21, x22, x23, x28, x30, x31, x32, x33, x205, x377000, x377001, x391000, x391001, x403000, x403001 => if x205 = true then (none) else (if x10 = true then ((laws_gLow.f k x8 x9).bind fun t411 => (if t411 = true then (if (wrap64 (x377001 * (wrap64 ((wrap64 (x5 * x9)) + x8)))) = (wrap64 (x377000 * (wrap64 ((wrap64 (x6 * x9)) + x8)))) then (if (wrap64 ((wrap64 (x5 * x9)) + x8)) ≤ 0 then (none) else (laws_FnRatiosFound.j1 k x1 x8 x9 x14 x15 x18 x20 x21 x22 x23 x28 x30 x31 x32 x33 (decide ((wrap64 ((wrap64 (x6 * x9)) + x8)) ≤ 0)) x391000 x391001 x403000 x403001)) else (none)) else (none))) else (laws_FnRatiosFound.j2 k x1 x18 x20 x21 x22 x23 x28 x30 x31 x32 x33 x391000 x391001 x403000 x403001))
def laws_FnRatiosFound.j2 : Nat → List Int → Int → Int → Int → Int → Bool → Int → Int → Int → Int → Bool → Int → Int → Int → Int → Option (Bool)
 | 0, _, _, _, _, _, _, _, _, _, _, _, _, _, _, _ => none
 | k + 1, x1, x18, x20, x21, x22, x23, x28, x30, x31, x32, x33, x391000, x391001, x403000, x403001 => if x23 = true then (if x22 < 1 then (none) else (if (wrap64 (x20 + x21)) = (wrap64 (x18 * x22)) then (if (wrap64 (x20 * x391001)) = (wrap64 (x21 * x391000)) then (if x20 < 1 then (none) else (if x21 < 1 then (none) else ((laws_gThree.f k x20 x21 x22).bind fun t412 => (laws_FnRatiosFound.j3 k x1 x28 x30 x31 x32 x33 (t412 != 1) x403000 x403001)))) else (none)) else (none))) else (laws_FnRatiosFound.j3 k x1 x28 x30 x31 x32 x33 false x403000 x403001)
def laws_FnRatiosFound.j3 : Nat → List Int → Int → Int → Int → Int → Bool → Bool → Int → Int → Option (Bool)
 | 0, _, _, _, _, _, _, _, _, _ => none
 | k + 1, x1, x28, x30, x31, x32, x33, x299, x403000, x403001 => if x299 = true then (none) else (if x33 = true then (if x32 < 1 then (none) else (if (wrap64 (x30 - x31)) = (wrap64 (x28 * x32)) then (if (wrap64 (x30 * x403001)) = (wrap64 (x31 * x403000)) then (if x30 < 1 then (none) else (if x31 < 1 then (none) else ((laws_gThree.f k x30 x31 x32).bind fun t413 => (laws_FnRatiosFound.j4 k x1 (t413 != 1))))) else (none)) else (none))) else (laws_FnRatiosFound.j4 k x1 false))
def laws_FnRatiosFound.j4 : Nat → List Int → Bool → Option (Bool)
 | 0, _, _ => none
 | k + 1, x1, x339 => if x339 = true then (none) else ((spec_DrawAgesFromTwo.f x1).bind fun bt414 => ((impl_AgesFromTwo.f k bt414.1 bt414.2.1 bt414.2.2.1 bt414.2.2.2.1 bt414.2.2.2.2).bind fun bt421 => ((spec_AgesFromTwo.f k bt414.1 bt414.2.1 bt414.2.2.1 bt414.2.2.2.1 bt414.2.2.2.2).bind fun bt425 => ((spec_DrawAgesFromThen.f x1).bind fun bt429 => ((impl_AgesFromThen.f k bt429.1 bt429.2.1 bt429.2.2.1 bt429.2.2.2.1 bt429.2.2.2.2.1 bt429.2.2.2.2.2).bind fun bt437 => ((spec_AgesFromThen.f k bt429.1 bt429.2.1 bt429.2.2.1 bt429.2.2.2.1 bt429.2.2.2.2.1 bt429.2.2.2.2.2).bind fun bt441 => ((spec_DrawTurnRatio.f x1).bind fun bt445 => ((impl_TurnRatio.f bt445.1 bt445.2).bind fun bt448 => ((spec_TurnRatio.f bt445.1 bt445.2).bind fun bt452 => (if (bt421.2.2.2 != bt425.2.2.2) = true then (none) else (if bt421.1 = bt425.1 then (if bt421.2.1 = bt425.2.1 then (if bt421.2.2.1 = bt425.2.2.1 then (if (bt437.2.2.2 != bt441.2.2.2) = true then (none) else (if bt437.1 = bt441.1 then (if bt437.2.1 = bt441.2.1 then (if bt437.2.2.1 = bt441.2.2.1 then (if (bt448.2.2 != bt452.2.2) = true then (none) else (if (!(bt448.1 == bt452.1) || (!(bt448.2.1 == bt452.2.1))) = true then (none) else ((impl_IsRatio.f bt445.1 bt445.2).bind fun t456 => (if (bt448.2.2 != t456) = true then (none) else ((impl_IsRatio.f bt445.1 bt445.2).bind fun t457 => ((spec_IsRatio.f bt445.1 bt445.2).bind fun t458 => (laws_FnRatiosFound.j5 k bt414.2.2.2.2 bt421.1 bt421.2.1 bt421.2.2.1 bt421.2.2.2 bt429.2.2.2.2.1 bt429.2.2.2.2.2 bt437.1 bt437.2.1 bt437.2.2.1 bt437.2.2.2 bt448.2.2 (t457 != t458) bt414.1 bt414.2.1 bt414.2.2.1 bt414.2.2.2.1 bt429.1 bt429.2.1 bt429.2.2.1 bt429.2.2.2.1 bt445.1 bt445.2 bt448.1 bt448.2.1))))))) else (none)) else (none)) else (none))) else (none)) else (none)) else (none))))))))))))
def laws_FnRatiosFound.j5 : Nat → Int → Int → Int → Int → Bool → Int → Int → Int → Int → Int → Bool → Bool → Bool → Int → Int → Int → Int → Int → Int → Int → Int → Int → Int → Int → Int → Option (Bool)
 | 0, _, _, _, _, _, _, _, _, _, _, _, _, _, _, _, _, _, _, _, _, _, _, _, _, _ => none
 | k + 1, x40, x41, x42, x43, x44, x48, x49, x50, x51, x52, x53, x57, x463, x420000, x420001, x421000, x421001, x436000, x436001, x437000, x437001, x448000, x448001, x452000, x452001 => if x463 = true then (none) else (if x44 = true then (if x43 < 1 then (none) else (if (wrap64 (x41 * x420001)) = (wrap64 (x42 * x420000)) then (if (wrap64 ((wrap64 (x41 + (wrap64 (x40 * x43)))) * x421001)) = (wrap64 ((wrap64 (x42 + (wrap64 (x40 * x43)))) * x421000)) then (if x41 < 1 then (none) else (if x42 < 1 then (none) else (if (wrap64 (x41 + (wrap64 (x40 * x43)))) < 1 then (none) else (if (wrap64 (x42 + (wrap64 (x40 * x43)))) < 1 then (none) else ((laws_gThree.f k x41 x42 x43).bind fun t459 => (laws_FnRatiosFound.j6 k x48 x49 x50 x51 x52 x53 x57 (t459 != 1) x436000 x436001 x437000 x437001 x448000 x448001 x452000 x452001)))))) else (none)) else (none))) else (laws_FnRatiosFound.j6 k x48 x49 x50 x51 x52 x53 x57 false x436000 x436001 x437000 x437001 x448000 x448001 x452000 x452001))
def laws_FnRatiosFound.j6 : Nat → Int → Int → Int → Int → Int → Bool → Bool → Bool → Int → Int → Int → Int → Int → Int → Int → Int → Option (Bool)
 | 0, _, _, _, _, _, _, _, _, _, _, _, _, _, _, _, _ => none
 | k + 1, x48, x49, x50, x51, x52, x53, x57, x529, x436000, x436001, x437000, x437001, x448000, x448001, x452000, x452001 => if x529 = true then (none) else (if x53 = true then (if x52 < 1 then (none) else (if (wrap64 ((wrap64 (x50 - (wrap64 (x48 * x52)))) * x436001)) = (wrap64 ((wrap64 (x51 - (wrap64 (x48 * x52)))) * x436000)) then (if (wrap64 ((wrap64 (x50 + (wrap64 (x49 * x52)))) * x437001)) = (wrap64 ((wrap64 (x51 + (wrap64 (x49 * x52)))) * x437000)) then (if (wrap64 (x50 - (wrap64 (x48 * x52)))) < 1 then (none) else (if (wrap64 (x51 - (wrap64 (x48 * x52)))) < 1 then (none) else ((laws_gThree.f k x50 x51 x52).bind fun t460 => (laws_FnRatiosFound.j7 k x57 (t460 != 1) x448000 x448001 x452000 x452001)))) else (none)) else (none))) else (laws_FnRatiosFound.j7 k x57 false x448000 x448001 x452000 x452001))
def laws_FnRatiosFound.j7 : Nat → Bool → Bool → Int → Int → Int → Int → Option (Bool)
 | 0, _, _, _, _, _, _ => none
 | k + 1, x57, x595, x448000, x448001, x452000, x452001 => if x595 = true then (none) else (if x57 = true then ((impl_TurnRatio.f x452000 x452001).bind fun bt461 => (if bt461.2.2 = true then (if (bt461.1 == x448000 && (bt461.2.1 == x448001)) = true then (some (x452000 == x448001)) else (none)) else (none))) else (some true))
def laws_FnRatiosFound.j1 : Nat → List Int → Int → Int → Int → Bool → Int → Int → Int → Int → Bool → Int → Int → Int → Int → Bool → Bool → Int → Int → Int → Int → Option (Bool)
 | 0, _, _, _, _, _, _, _, _, _, _, _, _, _, _, _, _, _, _, _, _ => none
 | k + 1, x1, x8, x9, x14, x15, x18, x20, x21, x22, x23, x28, x30, x31, x32, x33, x245, x391000, x391001, x403000, x403001 => if x245 = true then (none) else (if x9 = 1 then (if x15 = true then (if x8 ≤ 120 then (if x14 = x8 then (laws_FnRatiosFound.j2 k x1 x18 x20 x21 x22 x23 x28 x30 x31 x32 x33 x391000 x391001 x403000 x403001) else (none)) else (laws_FnRatiosFound.j2 k x1 x18 x20 x21 x22 x23 x28 x30 x31 x32 x33 x391000 x391001 x403000 x403001)) else (laws_FnRatiosFound.j2 k x1 x18 x20 x21 x22 x23 x28 x30 x31 x32 x33 x391000 x391001 x403000 x403001)) else (laws_FnRatiosFound.j2 k x1 x18 x20 x21 x22 x23 x28 x30 x31 x32 x33 x391000 x391001 x403000 x403001))
end
def laws_FnRatiosFound.f (k : Nat) (l0 : List Int) (l1 : List Int) : Option (Bool) := (laws_big.f l0 l1).bind fun t371 => (if t371 = true then (some true) else ((spec_DrawYearsUntilRatio.f l0).bind fun bt372 => ((impl_YearsUntilRatio.f k bt372.1 bt372.2.1 bt372.2.2.1 bt372.2.2.2).bind fun bt377 => ((spec_YearsUntilRatio.f k bt372.1 bt372.2.1 bt372.2.2.1 bt372.2.2.2).bind fun bt380 => ((impl_NearestYear.f k bt372.1 bt372.2.1 bt372.2.2.1 bt372.2.2.2).bind fun bt383 => ((spec_NearestYear.f k bt372.1 bt372.2.1 bt372.2.2.1 bt372.2.2.2).bind fun bt385 => ((spec_DrawAgesFromSum.f l0).bind fun bt387 => ((impl_AgesFromSum.f k bt387.1 bt387.2.1 bt387.2.2).bind fun bt391 => ((spec_AgesFromSum.f k bt387.1 bt387.2.1 bt387.2.2).bind fun bt395 => ((spec_DrawAgesFromGap.f l0).bind fun bt399 => ((impl_AgesFromGap.f k bt399.1 bt399.2.1 bt399.2.2).bind fun bt403 => ((spec_AgesFromGap.f k bt399.1 bt399.2.1 bt399.2.2).bind fun bt407 => (if (bt377.2.2 != bt380.2.2) = true then (none) else (if bt377.1 = bt380.1 then (if bt377.2.1 = bt380.2.1 then (if (bt383.2 != bt385.2) = true then (none) else (if bt383.1 = bt385.1 then (if (bt391.2.2.2 != bt395.2.2.2) = true then (none) else (if bt391.1 = bt395.1 then (if bt391.2.1 = bt395.2.1 then (if bt391.2.2.1 = bt395.2.2.1 then (if (bt403.2.2.2 != bt407.2.2.2) = true then (none) else (if bt403.1 = bt407.1 then (if bt403.2.1 = bt407.2.1 then (laws_FnRatiosFound.j0 k l1 bt372.1 bt372.2.1 bt377.1 bt377.2.1 bt377.2.2 bt383.1 bt383.2 bt387.1 bt391.1 bt391.2.1 bt391.2.2.1 bt391.2.2.2 bt399.1 bt403.1 bt403.2.1 bt403.2.2.1 bt403.2.2.2 (bt403.2.2.1 != bt407.2.2.1) bt372.2.2.1 bt372.2.2.2 bt387.2.1 bt387.2.2 bt399.2.1 bt399.2.2) else (none)) else (none))) else (none)) else (none)) else (none))) else (none))) else (none)) else (none)))))))))))))))
def laws_FnRatiosFound.T34 : Bool × List (List Nat × List Nat) := (true, [([], []), ([], []), ([0, 1], [0, 1]), ([2], [2]), ([3], [3]), ([3], [3]), ([4, 5, 3], [3, 4, 5]), ([3, 6], [3, 6]), ([7, 3], [7]), ([8], [8]), ([8], [8]), ([9, 10, 8], [8, 9, 10]), ([8, 11], [8, 11]), ([12, 8], [12]), ([13], [13]), ([13], [13]), ([14, 15, 13], [13, 14, 15]), ([13, 16], [13, 16]), ([17, 13], [17]), ([18], [18]), ([18], [18]), ([19, 20, 18], [18, 19, 20]), ([18, 21], [18, 21]), ([22, 18], [22]), ([23], [23]), ([23], [23]), ([24, 25, 23], [23, 24, 25]), ([23, 26], [23, 26]), ([27, 23], [27]), ([28], [28]), ([28], [28]), ([29, 30, 28], [28, 29, 30]), ([28, 31], [28, 31]), ([32, 28], [32]), ([33], [33]), ([33], [33]), ([34, 35, 33], [33, 34, 35]), ([33, 36], [33, 36]), ([37, 33], [37]), ([38], [38]), ([38], [38]), ([39, 40, 38], [38, 39, 40]), ([38, 41], [38, 41]), ([42, 38], [42]), ([43], [43]), ([43], [43]), ([44, 45, 43], [43, 44, 45]), ([43, 46], [43, 46]), ([47, 43], [47]), ([48], [48]), ([48], [48]), ([50, 48, 48], [48, 50]), ([49, 51, 48], [48, 49, 51]), ([48, 52], [48, 52]), ([53, 51], [53]), ([54], [54]), ([55, 54, 54], [54, 55]), ([54], [54]), ([57, 56, 54], [54, 57]), ([56, 58, 54], [54, 56, 58]), ([54, 59], [54, 59])])
def laws_FnRatiosFound.B34 : List Nat := [0, 0, 3, 7, 15, 15, 63, 127, 255, 511, 511, 2047, 4095, 8191, 16383, 16383, 65535, 131071, 262143, 524287, 524287, 2097151, 4194303, 8388607, 16777215, 16777215, 67108863, 134217727, 268435455, 536870911, 536870911, 2147483647, 4294967295, 8589934591, 17179869183, 17179869183, 68719476735, 137438953471, 274877906943, 549755813887, 549755813887, 2199023255551, 4398046511103, 8796093022207, 17592186044415, 17592186044415, 70368744177663, 140737488355327, 281474976710655, 562949953421311, 562949953421311, 1688849860263935, 4503599627370495, 9007199254740991, 18014398509481983, 36028797018963967, 72057594037927935, 36028797018963967, 288230376151711743, 576460752303423487, 1152921504606846975]
theorem laws_FnRatiosFound.tab34 : rtab .any (opsOf Try.f8 34) = laws_FnRatiosFound.T34 := by kernel_rfl
theorem laws_FnRatiosFound.bits34 : waitsOk laws_FnRatiosFound.T34.2 laws_FnRatiosFound.B34 = true := by kernel_rfl
set_option maxHeartbeats 40000000 in
set_option maxRecDepth 100000 in
theorem laws_FnRatiosFound.calls (k : Nat) (A0 : Option Addr) (c0 : Nat) (l0 : List Int) (A1 : Option Addr) (c1 : Nat) (l1 : List Int) (r : Bool) (w : World) (hr0 : Kd.C (Kd.int .u8) w A0 l0.length l0) (hc0 : l0.length ≤ c0) (hr1 : Kd.C (Kd.int .u8) w A1 l1.length l1) (hc1 : l1.length ≤ c1) (h : laws_FnRatiosFound.f k l0 l1 = some r) :
  Calls Try.prog 8 #[.slice A0 l0.length c0, .slice A1 l1.length c1] w fun e w' => e = .returned (.bool r) ∧ Below w.heap.size w w' := by
 have hu43 := Try.underlying43
 have HR0 := Aside0.mk hr0
 have HC0 := Aside0.mk hc0
 clear hr0 hc0
 have HR1 := Aside0.mk hr1
 have HC1 := Aside0.mk hc1
 clear hr1 hc1
 have HB := Aside0.mk (Below.refl w.heap.size w)
 have H : ((laws_big.f l0 l1).bind fun t371 => (if t371 = true then (some true) else ((spec_DrawYearsUntilRatio.f l0).bind fun bt372 => ((impl_YearsUntilRatio.f k bt372.1 bt372.2.1 bt372.2.2.1 bt372.2.2.2).bind fun bt377 => ((spec_YearsUntilRatio.f k bt372.1 bt372.2.1 bt372.2.2.1 bt372.2.2.2).bind fun bt380 => ((impl_NearestYear.f k bt372.1 bt372.2.1 bt372.2.2.1 bt372.2.2.2).bind fun bt383 => ((spec_NearestYear.f k bt372.1 bt372.2.1 bt372.2.2.1 bt372.2.2.2).bind fun bt385 => ((spec_DrawAgesFromSum.f l0).bind fun bt387 => ((impl_AgesFromSum.f k bt387.1 bt387.2.1 bt387.2.2).bind fun bt391 => ((spec_AgesFromSum.f k bt387.1 bt387.2.1 bt387.2.2).bind fun bt395 => ((spec_DrawAgesFromGap.f l0).bind fun bt399 => ((impl_AgesFromGap.f k bt399.1 bt399.2.1 bt399.2.2).bind fun bt403 => ((spec_AgesFromGap.f k bt399.1 bt399.2.1 bt399.2.2).bind fun bt407 => (if (bt377.2.2 != bt380.2.2) = true then (none) else (if bt377.1 = bt380.1 then (if bt377.2.1 = bt380.2.1 then (if (bt383.2 != bt385.2) = true then (none) else (if bt383.1 = bt385.1 then (if (bt391.2.2.2 != bt395.2.2.2) = true then (none) else (if bt391.1 = bt395.1 then (if bt391.2.1 = bt395.2.1 then (if bt391.2.2.1 = bt395.2.2.1 then (if (bt403.2.2.2 != bt407.2.2.2) = true then (none) else (if bt403.1 = bt407.1 then (if bt403.2.1 = bt407.2.1 then (laws_FnRatiosFound.j0 k l1 bt372.1 bt372.2.1 bt377.1 bt377.2.1 bt377.2.2 bt383.1 bt383.2 bt387.1 bt391.1 bt391.2.1 bt391.2.2.1 bt391.2.2.2 bt399.1 bt403.1 bt403.2.1 bt403.2.2.1 bt403.2.2.2 (bt403.2.2.1 != bt407.2.2.1) bt372.2.2.1 bt372.2.2.2 bt387.2.1 bt387.2.2 bt399.2.1 bt399.2.2) else (none)) else (none))) else (none)) else (none)) else (none))) else (none))) else (none)) else (none)))))))))))))))) = some r := h
 clear h
 replace H := Option.bind_eq_some_iff.mp H
 obtain ⟨t371, A30, H⟩ := H
 replace H : (if t371 = true then (some true) else ((spec_DrawYearsUntilRatio.f l0).bind fun bt372 => ((impl_YearsUntilRatio.f k bt372.1 bt372.2.1 bt372.2.2.1 bt372.2.2.2).bind fun bt377 => ((spec_YearsUntilRatio.f k bt372.1 bt372.2.1 bt372.2.2.1 bt372.2.2.2).bind fun bt380 => ((impl_NearestYear.f k bt372.1 bt372.2.1 bt372.2.2.1 bt372.2.2.2).bind fun bt383 => ((spec_NearestYear.f k bt372.1 bt372.2.1 bt372.2.2.1 bt372.2.2.2).bind fun bt385 => ((spec_DrawAgesFromSum.f l0).bind fun bt387 => ((impl_AgesFromSum.f k bt387.1 bt387.2.1 bt387.2.2).bind fun bt391 => ((spec_AgesFromSum.f k bt387.1 bt387.2.1 bt387.2.2).bind fun bt395 => ((spec_DrawAgesFromGap.f l0).bind fun bt399 => ((impl_AgesFromGap.f k bt399.1 bt399.2.1 bt399.2.2).bind fun bt403 => ((spec_AgesFromGap.f k bt399.1 bt399.2.1 bt399.2.2).bind fun bt407 => (if (bt377.2.2 != bt380.2.2) = true then (none) else (if bt377.1 = bt380.1 then (if bt377.2.1 = bt380.2.1 then (if (bt383.2 != bt385.2) = true then (none) else (if bt383.1 = bt385.1 then (if (bt391.2.2.2 != bt395.2.2.2) = true then (none) else (if bt391.1 = bt395.1 then (if bt391.2.1 = bt395.2.1 then (if bt391.2.2.1 = bt395.2.2.1 then (if (bt403.2.2.2 != bt407.2.2.2) = true then (none) else (if bt403.1 = bt407.1 then (if bt403.2.1 = bt407.2.1 then (laws_FnRatiosFound.j0 k l1 bt372.1 bt372.2.1 bt377.1 bt377.2.1 bt377.2.2 bt383.1 bt383.2 bt387.1 bt391.1 bt391.2.1 bt391.2.2.1 bt391.2.2.2 bt399.1 bt403.1 bt403.2.1 bt403.2.2.1 bt403.2.2.2 (bt403.2.2.1 != bt407.2.2.1) bt372.2.2.1 bt372.2.2.2 bt387.2.1 bt387.2.2 bt399.2.1 bt399.2.2) else (none)) else (none))) else (none)) else (none)) else (none))) else (none))) else (none)) else (none))))))))))))))) = some r := H
 have A3 := Aside0.mk A30
 clear A30
 by_cases c4 : t371 = true
 ·subst c4
  have H1 : (some true) = some r := by rw [if_pos rfl] at H; exact H
  clear H
  have H := H1
  clear H1
  obtain rfl := Option.some.inj H
  go_enter Try.func8, Try.ntmps8
  go_wp2_with (first | ((with_reducible refine gate_callee (f := 26) rfl ?_); refine kE (some 64) Try.func26 #[.slice A0 l0.length c0, .slice A1 l1.length c1] rfl ?_; (with_reducible refine (laws_big.calls _ _ l0 _ _ l1 true _ ?side1 ?side2 ?side3 ?side4 A3.out).mono ?_); (case side1 => repeat (first | exact HR0.out | (with_reducible refine Kd.C_alloc ?_ _) | (with_reducible refine Kd.C_drewN ?_ _) | (with_reducible refine Kd.C_drew ?_))); (case side2 => exact HC0.out); (case side3 => repeat (first | exact HR1.out | (with_reducible refine Kd.C_alloc ?_ _) | (with_reducible refine Kd.C_drewN ?_ _) | (with_reducible refine Kd.C_drew ?_))); (case side4 => exact HC1.out); rintro e w' ⟨rfl, ⟨nd, rfl⟩⟩; refine ⟨_, rfl, ?_⟩))
  go_ret
  exact ⟨by first | rfl | (simp [errW_none, errW_some] <;> rfl) | (simp [*, errW_none, errW_some] <;> rfl), kO⟩
 ·replace c4 := Bool.eq_false_iff.mpr c4
  subst c4
  have H1 : ((spec_DrawYearsUntilRatio.f l0).bind fun bt372 => ((impl_YearsUntilRatio.f k bt372.1 bt372.2.1 bt372.2.2.1 bt372.2.2.2).bind fun bt377 => ((spec_YearsUntilRatio.f k bt372.1 bt372.2.1 bt372.2.2.1 bt372.2.2.2).bind fun bt380 => ((impl_NearestYear.f k bt372.1 bt372.2.1 bt372.2.2.1 bt372.2.2.2).bind fun bt383 => ((spec_NearestYear.f k bt372.1 bt372.2.1 bt372.2.2.1 bt372.2.2.2).bind fun bt385 => ((spec_DrawAgesFromSum.f l0).bind fun bt387 => ((impl_AgesFromSum.f k bt387.1 bt387.2.1 bt387.2.2).bind fun bt391 => ((spec_AgesFromSum.f k bt387.1 bt387.2.1 bt387.2.2).bind fun bt395 => ((spec_DrawAgesFromGap.f l0).bind fun bt399 => ((impl_AgesFromGap.f k bt399.1 bt399.2.1 bt399.2.2).bind fun bt403 => ((spec_AgesFromGap.f k bt399.1 bt399.2.1 bt399.2.2).bind fun bt407 => (if (bt377.2.2 != bt380.2.2) = true then (none) else (if bt377.1 = bt380.1 then (if bt377.2.1 = bt380.2.1 then (if (bt383.2 != bt385.2) = true then (none) else (if bt383.1 = bt385.1 then (if (bt391.2.2.2 != bt395.2.2.2) = true then (none) else (if bt391.1 = bt395.1 then (if bt391.2.1 = bt395.2.1 then (if bt391.2.2.1 = bt395.2.2.1 then (if (bt403.2.2.2 != bt407.2.2.2) = true then (none) else (if bt403.1 = bt407.1 then (if bt403.2.1 = bt407.2.1 then (laws_FnRatiosFound.j0 k l1 bt372.1 bt372.2.1 bt377.1 bt377.2.1 bt377.2.2 bt383.1 bt383.2 bt387.1 bt391.1 bt391.2.1 bt391.2.2.1 bt391.2.2.2 bt399.1 bt403.1 bt403.2.1 bt403.2.2.1 bt403.2.2.2 (bt403.2.2.1 != bt407.2.2.1) bt372.2.2.1 bt372.2.2.2 bt387.2.1 bt387.2.2 bt399.2.1 bt399.2.2) else (none)) else (none))) else (none)) else (none)) else (none))) else (none))) else (none)) else (none)))))))))))))) = some r := by rw [if_neg (show ¬ (false = true) by decide)] at H; exact H
  clear H
  have H := H1
  clear H1
  replace H := Option.bind_eq_some_iff.mp H
  obtain ⟨⟨t372, t373, t374, t375⟩, A50, H⟩ := H
  replace H : ((impl_YearsUntilRatio.f k t372 t373 t374 t375).bind fun bt377 => ((spec_YearsUntilRatio.f k t372 t373 t374 t375).bind fun bt380 => ((impl_NearestYear.f k t372 t373 t374 t375).bind fun bt383 => ((spec_NearestYear.f k t372 t373 t374 t375).bind fun bt385 => ((spec_DrawAgesFromSum.f l0).bind fun bt387 => ((impl_AgesFromSum.f k bt387.1 bt387.2.1 bt387.2.2).bind fun bt391 => ((spec_AgesFromSum.f k bt387.1 bt387.2.1 bt387.2.2).bind fun bt395 => ((spec_DrawAgesFromGap.f l0).bind fun bt399 => ((impl_AgesFromGap.f k bt399.1 bt399.2.1 bt399.2.2).bind fun bt403 => ((spec_AgesFromGap.f k bt399.1 bt399.2.1 bt399.2.2).bind fun bt407 => (if (bt377.2.2 != bt380.2.2) = true then (none) else (if bt377.1 = bt380.1 then (if bt377.2.1 = bt380.2.1 then (if (bt383.2 != bt385.2) = true then (none) else (if bt383.1 = bt385.1 then (if (bt391.2.2.2 != bt395.2.2.2) = true then (none) else (if bt391.1 = bt395.1 then (if bt391.2.1 = bt395.2.1 then (if bt391.2.2.1 = bt395.2.2.1 then (if (bt403.2.2.2 != bt407.2.2.2) = true then (none) else (if bt403.1 = bt407.1 then (if bt403.2.1 = bt407.2.1 then (laws_FnRatiosFound.j0 k l1 t372 t373 bt377.1 bt377.2.1 bt377.2.2 bt383.1 bt383.2 bt387.1 bt391.1 bt391.2.1 bt391.2.2.1 bt391.2.2.2 bt399.1 bt403.1 bt403.2.1 bt403.2.2.1 bt403.2.2.2 (bt403.2.2.1 != bt407.2.2.1) t374 t375 bt387.2.1 bt387.2.2 bt399.2.1 bt399.2.2) else (none)) else (none))) else (none)) else (none)) else (none))) else (none))) else (none)) else (none))))))))))))) = some r := H
  have A5 := Aside0.mk A50
  clear A50
  replace H := Option.bind_eq_some_iff.mp H
  obtain ⟨⟨t377, t378, t379⟩, A60, H⟩ := H
  replace H : ((spec_YearsUntilRatio.f k t372 t373 t374 t375).bind fun bt380 => ((impl_NearestYear.f k t372 t373 t374 t375).bind fun bt383 => ((spec_NearestYear.f k t372 t373 t374 t375).bind fun bt385 => ((spec_DrawAgesFromSum.f l0).bind fun bt387 => ((impl_AgesFromSum.f k bt387.1 bt387.2.1 bt387.2.2).bind fun bt391 => ((spec_AgesFromSum.f k bt387.1 bt387.2.1 bt387.2.2).bind fun bt395 => ((spec_DrawAgesFromGap.f l0).bind fun bt399 => ((impl_AgesFromGap.f k bt399.1 bt399.2.1 bt399.2.2).bind fun bt403 => ((spec_AgesFromGap.f k bt399.1 bt399.2.1 bt399.2.2).bind fun bt407 => (if (t379 != bt380.2.2) = true then (none) else (if t377 = bt380.1 then (if t378 = bt380.2.1 then (if (bt383.2 != bt385.2) = true then (none) else (if bt383.1 = bt385.1 then (if (bt391.2.2.2 != bt395.2.2.2) = true then (none) else (if bt391.1 = bt395.1 then (if bt391.2.1 = bt395.2.1 then (if bt391.2.2.1 = bt395.2.2.1 then (if (bt403.2.2.2 != bt407.2.2.2) = true then (none) else (if bt403.1 = bt407.1 then (if bt403.2.1 = bt407.2.1 then (laws_FnRatiosFound.j0 k l1 t372 t373 t377 t378 t379 bt383.1 bt383.2 bt387.1 bt391.1 bt391.2.1 bt391.2.2.1 bt391.2.2.2 bt399.1 bt403.1 bt403.2.1 bt403.2.2.1 bt403.2.2.2 (bt403.2.2.1 != bt407.2.2.1) t374 t375 bt387.2.1 bt387.2.2 bt399.2.1 bt399.2.2) else (none)) else (none))) else (none)) else (none)) else (none))) else (none))) else (none)) else (none)))))))))))) = some r := H
  have A6 := Aside0.mk A60
  clear A60
  replace H := Option.bind_eq_some_iff.mp H
  obtain ⟨⟨t380, t381, t382⟩, A70, H⟩ := H
  replace H : ((impl_NearestYear.f k t372 t373 t374 t375).bind fun bt383 => ((spec_NearestYear.f k t372 t373 t374 t375).bind fun bt385 => ((spec_DrawAgesFromSum.f l0).bind fun bt387 => ((impl_AgesFromSum.f k bt387.1 bt387.2.1 bt387.2.2).bind fun bt391 => ((spec_AgesFromSum.f k bt387.1 bt387.2.1 bt387.2.2).bind fun bt395 => ((spec_DrawAgesFromGap.f l0).bind fun bt399 => ((impl_AgesFromGap.f k bt399.1 bt399.2.1 bt399.2.2).bind fun bt403 => ((spec_AgesFromGap.f k bt399.1 bt399.2.1 bt399.2.2).bind fun bt407 => (if (t379 != t382) = true then (none) else (if t377 = t380 then (if t378 = t381 then (if (bt383.2 != bt385.2) = true then (none) else (if bt383.1 = bt385.1 then (if (bt391.2.2.2 != bt395.2.2.2) = true then (none) else (if bt391.1 = bt395.1 then (if bt391.2.1 = bt395.2.1 then (if bt391.2.2.1 = bt395.2.2.1 then (if (bt403.2.2.2 != bt407.2.2.2) = true then (none) else (if bt403.1 = bt407.1 then (if bt403.2.1 = bt407.2.1 then (laws_FnRatiosFound.j0 k l1 t372 t373 t377 t378 t379 bt383.1 bt383.2 bt387.1 bt391.1 bt391.2.1 bt391.2.2.1 bt391.2.2.2 bt399.1 bt403.1 bt403.2.1 bt403.2.2.1 bt403.2.2.2 (bt403.2.2.1 != bt407.2.2.1) t374 t375 bt387.2.1 bt387.2.2 bt399.2.1 bt399.2.2) else (none)) else (none))) else (none)) else (none)) else (none))) else (none))) else (none)) else (none))))))))))) = some r := H
  have A7 := Aside0.mk A70
  clear A70
  replace H := Option.bind_eq_some_iff.mp H
  obtain ⟨⟨t383, t384⟩, A80, H⟩ := H
  replace H : ((spec_NearestYear.f k t372 t373 t374 t375).bind fun bt385 => ((spec_DrawAgesFromSum.f l0).bind fun bt387 => ((impl_AgesFromSum.f k bt387.1 bt387.2.1 bt387.2.2).bind fun bt391 => ((spec_AgesFromSum.f k bt387.1 bt387.2.1 bt387.2.2).bind fun bt395 => ((spec_DrawAgesFromGap.f l0).bind fun bt399 => ((impl_AgesFromGap.f k bt399.1 bt399.2.1 bt399.2.2).bind fun bt403 => ((spec_AgesFromGap.f k bt399.1 bt399.2.1 bt399.2.2).bind fun bt407 => (if (t379 != t382) = true then (none) else (if t377 = t380 then (if t378 = t381 then (if (t384 != bt385.2) = true then (none) else (if t383 = bt385.1 then (if (bt391.2.2.2 != bt395.2.2.2) = true then (none) else (if bt391.1 = bt395.1 then (if bt391.2.1 = bt395.2.1 then (if bt391.2.2.1 = bt395.2.2.1 then (if (bt403.2.2.2 != bt407.2.2.2) = true then (none) else (if bt403.1 = bt407.1 then (if bt403.2.1 = bt407.2.1 then (laws_FnRatiosFound.j0 k l1 t372 t373 t377 t378 t379 t383 t384 bt387.1 bt391.1 bt391.2.1 bt391.2.2.1 bt391.2.2.2 bt399.1 bt403.1 bt403.2.1 bt403.2.2.1 bt403.2.2.2 (bt403.2.2.1 != bt407.2.2.1) t374 t375 bt387.2.1 bt387.2.2 bt399.2.1 bt399.2.2) else (none)) else (none))) else (none)) else (none)) else (none))) else (none))) else (none)) else (none)))))))))) = some r := H
  have A8 := Aside0.mk A80
  clear A80
  replace H := Option.bind_eq_some_iff.mp H
  obtain ⟨⟨t385, t386⟩, A90, H⟩ := H
  replace H : ((spec_DrawAgesFromSum.f l0).bind fun bt387 => ((impl_AgesFromSum.f k bt387.1 bt387.2.1 bt387.2.2).bind fun bt391 => ((spec_AgesFromSum.f k bt387.1 bt387.2.1 bt387.2.2).bind fun bt395 => ((spec_DrawAgesFromGap.f l0).bind fun bt399 => ((impl_AgesFromGap.f k bt399.1 bt399.2.1 bt399.2.2).bind fun bt403 => ((spec_AgesFromGap.f k bt399.1 bt399.2.1 bt399.2.2).bind fun bt407 => (if (t379 != t382) = true then (none) else (if t377 = t380 then (if t378 = t381 then (if (t384 != t386) = true then (none) else (if t383 = t385 then (if (bt391.2.2.2 != bt395.2.2.2) = true then (none) else (if bt391.1 = bt395.1 then (if bt391.2.1 = bt395.2.1 then (if bt391.2.2.1 = bt395.2.2.1 then (if (bt403.2.2.2 != bt407.2.2.2) = true then (none) else (if bt403.1 = bt407.1 then (if bt403.2.1 = bt407.2.1 then (laws_FnRatiosFound.j0 k l1 t372 t373 t377 t378 t379 t383 t384 bt387.1 bt391.1 bt391.2.1 bt391.2.2.1 bt391.2.2.2 bt399.1 bt403.1 bt403.2.1 bt403.2.2.1 bt403.2.2.2 (bt403.2.2.1 != bt407.2.2.1) t374 t375 bt387.2.1 bt387.2.2 bt399.2.1 bt399.2.2) else (none)) else (none))) else (none)) else (none)) else (none))) else (none))) else (none)) else (none))))))))) = some r := H
  have A9 := Aside0.mk A90
  clear A90
  replace H := Option.bind_eq_some_iff.mp H
  obtain ⟨⟨t387, t388, t389⟩, A100, H⟩ := H
  replace H : ((impl_AgesFromSum.f k t387 t388 t389).bind fun bt391 => ((spec_AgesFromSum.f k t387 t388 t389).bind fun bt395 => ((spec_DrawAgesFromGap.f l0).bind fun bt399 => ((impl_AgesFromGap.f k bt399.1 bt399.2.1 bt399.2.2).bind fun bt403 => ((spec_AgesFromGap.f k bt399.1 bt399.2.1 bt399.2.2).bind fun bt407 => (if (t379 != t382) = true then (none) else (if t377 = t380 then (if t378 = t381 then (if (t384 != t386) = true then (none) else (if t383 = t385 then (if (bt391.2.2.2 != bt395.2.2.2) = true then (none) else (if bt391.1 = bt395.1 then (if bt391.2.1 = bt395.2.1 then (if bt391.2.2.1 = bt395.2.2.1 then (if (bt403.2.2.2 != bt407.2.2.2) = true then (none) else (if bt403.1 = bt407.1 then (if bt403.2.1 = bt407.2.1 then (laws_FnRatiosFound.j0 k l1 t372 t373 t377 t378 t379 t383 t384 t387 bt391.1 bt391.2.1 bt391.2.2.1 bt391.2.2.2 bt399.1 bt403.1 bt403.2.1 bt403.2.2.1 bt403.2.2.2 (bt403.2.2.1 != bt407.2.2.1) t374 t375 t388 t389 bt399.2.1 bt399.2.2) else (none)) else (none))) else (none)) else (none)) else (none))) else (none))) else (none)) else (none)))))))) = some r := H
  have A10 := Aside0.mk A100
  clear A100
  replace H := Option.bind_eq_some_iff.mp H
  obtain ⟨⟨t391, t392, t393, t394⟩, A110, H⟩ := H
  replace H : ((spec_AgesFromSum.f k t387 t388 t389).bind fun bt395 => ((spec_DrawAgesFromGap.f l0).bind fun bt399 => ((impl_AgesFromGap.f k bt399.1 bt399.2.1 bt399.2.2).bind fun bt403 => ((spec_AgesFromGap.f k bt399.1 bt399.2.1 bt399.2.2).bind fun bt407 => (if (t379 != t382) = true then (none) else (if t377 = t380 then (if t378 = t381 then (if (t384 != t386) = true then (none) else (if t383 = t385 then (if (t394 != bt395.2.2.2) = true then (none) else (if t391 = bt395.1 then (if t392 = bt395.2.1 then (if t393 = bt395.2.2.1 then (if (bt403.2.2.2 != bt407.2.2.2) = true then (none) else (if bt403.1 = bt407.1 then (if bt403.2.1 = bt407.2.1 then (laws_FnRatiosFound.j0 k l1 t372 t373 t377 t378 t379 t383 t384 t387 t391 t392 t393 t394 bt399.1 bt403.1 bt403.2.1 bt403.2.2.1 bt403.2.2.2 (bt403.2.2.1 != bt407.2.2.1) t374 t375 t388 t389 bt399.2.1 bt399.2.2) else (none)) else (none))) else (none)) else (none)) else (none))) else (none))) else (none)) else (none))))))) = some r := H
  have A11 := Aside0.mk A110
  clear A110
  replace H := Option.bind_eq_some_iff.mp H
  obtain ⟨⟨t395, t396, t397, t398⟩, A120, H⟩ := H
  replace H : ((spec_DrawAgesFromGap.f l0).bind fun bt399 => ((impl_AgesFromGap.f k bt399.1 bt399.2.1 bt399.2.2).bind fun bt403 => ((spec_AgesFromGap.f k bt399.1 bt399.2.1 bt399.2.2).bind fun bt407 => (if (t379 != t382) = true then (none) else (if t377 = t380 then (if t378 = t381 then (if (t384 != t386) = true then (none) else (if t383 = t385 then (if (t394 != t398) = true then (none) else (if t391 = t395 then (if t392 = t396 then (if t393 = t397 then (if (bt403.2.2.2 != bt407.2.2.2) = true then (none) else (if bt403.1 = bt407.1 then (if bt403.2.1 = bt407.2.1 then (laws_FnRatiosFound.j0 k l1 t372 t373 t377 t378 t379 t383 t384 t387 t391 t392 t393 t394 bt399.1 bt403.1 bt403.2.1 bt403.2.2.1 bt403.2.2.2 (bt403.2.2.1 != bt407.2.2.1) t374 t375 t388 t389 bt399.2.1 bt399.2.2) else (none)) else (none))) else (none)) else (none)) else (none))) else (none))) else (none)) else (none)))))) = some r := H
  have A12 := Aside0.mk A120
  clear A120
  replace H := Option.bind_eq_some_iff.mp H
  obtain ⟨⟨t399, t400, t401⟩, A130, H⟩ := H
  replace H : ((impl_AgesFromGap.f k t399 t400 t401).bind fun bt403 => ((spec_AgesFromGap.f k t399 t400 t401).bind fun bt407 => (if (t379 != t382) = true then (none) else (if t377 = t380 then (if t378 = t381 then (if (t384 != t386) = true then (none) else (if t383 = t385 then (if (t394 != t398) = true then (none) else (if t391 = t395 then (if t392 = t396 then (if t393 = t397 then (if (bt403.2.2.2 != bt407.2.2.2) = true then (none) else (if bt403.1 = bt407.1 then (if bt403.2.1 = bt407.2.1 then (laws_FnRatiosFound.j0 k l1 t372 t373 t377 t378 t379 t383 t384 t387 t391 t392 t393 t394 t399 bt403.1 bt403.2.1 bt403.2.2.1 bt403.2.2.2 (bt403.2.2.1 != bt407.2.2.1) t374 t375 t388 t389 t400 t401) else (none)) else (none))) else (none)) else (none)) else (none))) else (none))) else (none)) else (none))))) = some r := H
  have A13 := Aside0.mk A130
  clear A130
  replace H := Option.bind_eq_some_iff.mp H
  obtain ⟨⟨t403, t404, t405, t406⟩, A140, H⟩ := H
  replace H : ((spec_AgesFromGap.f k t399 t400 t401).bind fun bt407 => (if (t379 != t382) = true then (none) else (if t377 = t380 then (if t378 = t381 then (if (t384 != t386) = true then (none) else (if t383 = t385 then (if (t394 != t398) = true then (none) else (if t391 = t395 then (if t392 = t396 then (if t393 = t397 then (if (t406 != bt407.2.2.2) = true then (none) else (if t403 = bt407.1 then (if t404 = bt407.2.1 then (laws_FnRatiosFound.j0 k l1 t372 t373 t377 t378 t379 t383 t384 t387 t391 t392 t393 t394 t399 t403 t404 t405 t406 (t405 != bt407.2.2.1) t374 t375 t388 t389 t400 t401) else (none)) else (none))) else (none)) else (none)) else (none))) else (none))) else (none)) else (none)))) = some r := H
  have A14 := Aside0.mk A140
  clear A140
  replace H := Option.bind_eq_some_iff.mp H
  obtain ⟨⟨t407, t408, t409, t410⟩, A150, H⟩ := H
  replace H : (if (t379 != t382) = true then (none) else (if t377 = t380 then (if t378 = t381 then (if (t384 != t386) = true then (none) else (if t383 = t385 then (if (t394 != t398) = true then (none) else (if t391 = t395 then (if t392 = t396 then (if t393 = t397 then (if (t406 != t410) = true then (none) else (if t403 = t407 then (if t404 = t408 then (laws_FnRatiosFound.j0 k l1 t372 t373 t377 t378 t379 t383 t384 t387 t391 t392 t393 t394 t399 t403 t404 t405 t406 (t405 != t409) t374 t375 t388 t389 t400 t401) else (none)) else (none))) else (none)) else (none)) else (none))) else (none))) else (none)) else (none))) = some r := H
  have A15 := Aside0.mk A150
  clear A150
  have HC16 := Aside0.mk H
  clear H
  go_enter Try.func8, Try.ntmps8
  go_upto_region 14 with (first | ((with_reducible refine gate_callee (f := 26) rfl ?_); refine kE (some 64) Try.func26 #[.slice A0 l0.length c0, .slice A1 l1.length c1] rfl ?_; (with_reducible refine (laws_big.calls _ _ l0 _ _ l1 false _ ?side1 ?side2 ?side3 ?side4 A3.out).mono ?_); (case side1 => repeat (first | exact HR0.out | (with_reducible refine Kd.C_alloc ?_ _) | (with_reducible refine Kd.C_drewN ?_ _) | (with_reducible refine Kd.C_drew ?_))); (case side2 => exact HC0.out); (case side3 => repeat (first | exact HR1.out | (with_reducible refine Kd.C_alloc ?_ _) | (with_reducible refine Kd.C_drewN ?_ _) | (with_reducible refine Kd.C_drew ?_))); (case side4 => exact HC1.out); rintro e w' ⟨rfl, ⟨nd, rfl⟩⟩; refine ⟨_, rfl, ?_⟩) | ((with_reducible refine gate_callee (f := 27) rfl ?_); refine kE (some 67) Try.func27 #[.slice A0 l0.length c0] rfl ?_; (with_reducible refine (spec_DrawYearsUntilRatio.calls _ _ l0 t372 t373 t374 t375 _ ?side1 ?side2 A5.out).mono ?_); (case side1 => repeat (first | exact HR0.out | (with_reducible refine Kd.C_alloc ?_ _) | (with_reducible refine Kd.C_drewN ?_ _) | (with_reducible refine Kd.C_drew ?_))); (case side2 => exact HC0.out); rintro e w17 ⟨rfl, hb⟩; refine ⟨_, rfl, ?_⟩; have n0_ := kH HB hb; replace HB := n0_; clear n0_; (try clear hb)) | ((with_reducible refine gate_dst (N := 7) rfl ?_); refine box_event ?hg (N := 7) ?hd (cs := #[.int .i64 0, .int .i64 0]) (t := 43) ?hr ?_; (case hd => rfl); (case hg => rfl); (case hr => first | (go_simp; done) | (go_simp; rfl)); intro gb376 hg w18 hbox hb; have n0_ := kH HB hb; have n1_ := Aside0.mk (hbox); have n2_ := kG HB hg; have n3_ := kG HB hg; replace HB := n0_; have BK376 := n1_; have GW376 := n2_; have GE376 := n3_; clear n0_ n1_ n2_ n3_; clear hb hbox hg; have hcz19_0 : w18.cell? ⟨gb376, 0, none⟩ = some (.int .i64 0) := (blk_cell BK376.out 0).trans rfl; have hcz19_1 : w18.cell? ⟨gb376, 1, none⟩ = some (.int .i64 0) := (blk_cell BK376.out 1).trans rfl; have hfz19_0 := blk_frozen BK376.out 0; have hfz19_1 := blk_frozen BK376.out 1) | ((with_reducible refine gate_callee (f := 28) rfl ?_); refine kE (some 75) Try.func28 #[.int .i64 t372, .int .i64 t373, .agg #[.int .i64 t374, .int .i64 t375]] rfl ?_; (with_reducible refine (impl_YearsUntilRatio.calls k t372 t373 t374 t375 t377 t378 t379 _ A6.out).mono ?_); rintro e w20 ⟨rfl, hb⟩; refine ⟨_, rfl, ?_⟩; have n0_ := Aside0.mk (blk_below (g := gb376) (o := .cells #[.int .i64 t374, .int .i64 t375] 43 (0, 0)) (by (with_reducible repeat (first | refine blk_drewN ?_ _ | refine blk_drew ?_ | refine blk_alloc ?_ _)); refine blk_put (cs := #[.int .i64 t374, .int .i64 0]) ?_ 1 _ rfl; (with_reducible repeat (first | refine blk_drewN ?_ _ | refine blk_drew ?_ | refine blk_alloc ?_ _)); refine blk_put (cs := #[.int .i64 0, .int .i64 0]) ?_ 0 _ rfl; (with_reducible repeat (first | refine blk_drewN ?_ _ | refine blk_drew ?_ | refine blk_alloc ?_ _)); exact BK376.out) hb); have n1_ := kH HB hb; replace BK376 := n0_; replace HB := n1_; clear n0_ n1_; (try clear hb); have hcz21_0 : w20.cell? ⟨gb376, 0, none⟩ = some (.int .i64 t374) := (blk_cell BK376.out 0).trans rfl; have hcz21_1 : w20.cell? ⟨gb376, 1, none⟩ = some (.int .i64 t375) := (blk_cell BK376.out 1).trans rfl; have hfz21_0 := blk_frozen BK376.out 0; have hfz21_1 := blk_frozen BK376.out 1) | ((with_reducible refine gate_callee (f := 29) rfl ?_); refine kE (some 83) Try.func29 #[.int .i64 t372, .int .i64 t373, .agg #[.int .i64 t374, .int .i64 t375]] rfl ?_; (with_reducible refine (spec_YearsUntilRatio.calls k t372 t373 t374 t375 t380 t381 t382 _ A7.out).mono ?_); rintro e w22 ⟨rfl, hb⟩; refine ⟨_, rfl, ?_⟩; have n0_ := kB BK376 hb; have n1_ := kH HB hb; replace BK376 := n0_; replace HB := n1_; clear n0_ n1_; (try clear hb); have hcz23_0 : w22.cell? ⟨gb376, 0, none⟩ = some (.int .i64 t374) := (blk_cell BK376.out 0).trans rfl; have hcz23_1 : w22.cell? ⟨gb376, 1, none⟩ = some (.int .i64 t375) := (blk_cell BK376.out 1).trans rfl; have hfz23_0 := blk_frozen BK376.out 0; have hfz23_1 := blk_frozen BK376.out 1) | ((with_reducible refine gate_callee (f := 30) rfl ?_); refine kE (some 91) Try.func30 #[.int .i64 t372, .int .i64 t373, .agg #[.int .i64 t374, .int .i64 t375]] rfl ?_; (with_reducible refine (impl_NearestYear.calls k t372 t373 t374 t375 t383 t384 _ A8.out).mono ?_); rintro e w24 ⟨rfl, hb⟩; refine ⟨_, rfl, ?_⟩; have n0_ := kB BK376 hb; have n1_ := kH HB hb; replace BK376 := n0_; replace HB := n1_; clear n0_ n1_; (try clear hb); have hcz25_0 : w24.cell? ⟨gb376, 0, none⟩ = some (.int .i64 t374) := (blk_cell BK376.out 0).trans rfl; have hcz25_1 : w24.cell? ⟨gb376, 1, none⟩ = some (.int .i64 t375) := (blk_cell BK376.out 1).trans rfl; have hfz25_0 := blk_frozen BK376.out 0; have hfz25_1 := blk_frozen BK376.out 1) | ((with_reducible refine gate_callee (f := 31) rfl ?_); refine kE (some 98) Try.func31 #[.int .i64 t372, .int .i64 t373, .agg #[.int .i64 t374, .int .i64 t375]] rfl ?_; (with_reducible refine (spec_NearestYear.calls k t372 t373 t374 t375 t385 t386 _ A9.out).mono ?_); rintro e w26 ⟨rfl, hb⟩; refine ⟨_, rfl, ?_⟩; have n0_ := kB BK376 hb; have n1_ := kH HB hb; replace BK376 := n0_; replace HB := n1_; clear n0_ n1_; (try clear hb)) | ((with_reducible refine gate_callee (f := 32) rfl ?_); refine kE (some 103) Try.func32 #[.slice A0 l0.length c0] rfl ?_; (with_reducible refine (spec_DrawAgesFromSum.calls _ _ l0 t387 t388 t389 _ ?side1 ?side2 A10.out).mono ?_); (case side1 => repeat (first | exact (Kd.C_below HR0.out HB.out) | (with_reducible refine Kd.C_alloc ?_ _) | (with_reducible refine Kd.C_drewN ?_ _) | (with_reducible refine Kd.C_drew ?_))); (case side2 => exact HC0.out); rintro e w27 ⟨rfl, hb⟩; refine ⟨_, rfl, ?_⟩; have n0_ := kB BK376 hb; have n1_ := kH HB hb; replace BK376 := n0_; replace HB := n1_; clear n0_ n1_; (try clear hb)) | ((with_reducible refine gate_dst (N := 19) rfl ?_); refine box_event ?hg (N := 19) ?hd (cs := #[.int .i64 0, .int .i64 0]) (t := 43) ?hr ?_; (case hd => rfl); (case hg => rfl); (case hr => first | (go_simp; done) | (go_simp; rfl)); intro gb390 hg w28 hbox hb; have n0_ := kB BK376 hb; have n1_ := kH HB hb; have n2_ := Aside0.mk (hbox); have n3_ := kG HB hg; have n4_ := kG HB hg; have n5_ := kL BK376 hg; have n6_ := kR BK376 hg; replace BK376 := n0_; replace HB := n1_; have BK390 := n2_; have GW390 := n3_; have GE390 := n4_; have NB376_390 := n5_; have NB390_376 := n6_; clear n0_ n1_ n2_ n3_ n4_ n5_ n6_; clear hb hbox hg; have hnb29 := NB390_376.out; have hnc29 := NB376_390.out; have hcz30_0 : w28.cell? ⟨gb390, 0, none⟩ = some (.int .i64 0) := (blk_cell BK390.out 0).trans rfl; have hcz30_1 : w28.cell? ⟨gb390, 1, none⟩ = some (.int .i64 0) := (blk_cell BK390.out 1).trans rfl; have hfz30_0 := blk_frozen BK390.out 0; have hfz30_1 := blk_frozen BK390.out 1) | ((with_reducible refine gate_callee (f := 33) rfl ?_); refine kE (some 109) Try.func33 #[.int .i64 t387, .agg #[.int .i64 t388, .int .i64 t389]] rfl ?_; (with_reducible refine (impl_AgesFromSum.calls k t387 t388 t389 t391 t392 t393 t394 _ A11.out).mono ?_); rintro e w31 ⟨rfl, hb⟩; refine ⟨_, rfl, ?_⟩; have n0_ := kB BK376 hb; have n1_ := Aside0.mk (blk_below (g := gb390) (o := .cells #[.int .i64 t388, .int .i64 t389] 43 (0, 0)) (by (with_reducible repeat (first | refine blk_drewN ?_ _ | refine blk_drew ?_ | refine blk_alloc ?_ _)); refine blk_put (cs := #[.int .i64 t388, .int .i64 0]) ?_ 1 _ rfl; (with_reducible repeat (first | refine blk_drewN ?_ _ | refine blk_drew ?_ | refine blk_alloc ?_ _)); refine blk_put (cs := #[.int .i64 0, .int .i64 0]) ?_ 0 _ rfl; (with_reducible repeat (first | refine blk_drewN ?_ _ | refine blk_drew ?_ | refine blk_alloc ?_ _)); exact BK390.out) hb); have n2_ := kH HB hb; replace BK376 := n0_; replace BK390 := n1_; replace HB := n2_; clear n0_ n1_ n2_; (try clear hb); have hcz32_0 : w31.cell? ⟨gb390, 0, none⟩ = some (.int .i64 t388) := (blk_cell BK390.out 0).trans rfl; have hcz32_1 : w31.cell? ⟨gb390, 1, none⟩ = some (.int .i64 t389) := (blk_cell BK390.out 1).trans rfl; have hfz32_0 := blk_frozen BK390.out 0; have hfz32_1 := blk_frozen BK390.out 1) | ((with_reducible refine gate_callee (f := 34) rfl ?_); refine kE (some 117) Try.func34 #[.int .i64 t387, .agg #[.int .i64 t388, .int .i64 t389]] rfl ?_; (with_reducible refine (spec_AgesFromSum.calls k t387 t388 t389 t395 t396 t397 t398 _ A12.out).mono ?_); rintro e w33 ⟨rfl, hb⟩; refine ⟨_, rfl, ?_⟩; have n0_ := kB BK376 hb; have n1_ := kB BK390 hb; have n2_ := kH HB hb; replace BK376 := n0_; replace BK390 := n1_; replace HB := n2_; clear n0_ n1_ n2_; (try clear hb)) | ((with_reducible refine gate_callee (f := 35) rfl ?_); refine kE (some 124) Try.func35 #[.slice A0 l0.length c0] rfl ?_; (with_reducible refine (spec_DrawAgesFromGap.calls _ _ l0 t399 t400 t401 _ ?side1 ?side2 A13.out).mono ?_); (case side1 => repeat (first | exact (Kd.C_below HR0.out HB.out) | (with_reducible refine Kd.C_alloc ?_ _) | (with_reducible refine Kd.C_drewN ?_ _) | (with_reducible refine Kd.C_drew ?_))); (case side2 => exact HC0.out); rintro e w34 ⟨rfl, hb⟩; refine ⟨_, rfl, ?_⟩; have n0_ := kB BK376 hb; have n1_ := kB BK390 hb; have n2_ := kH HB hb; replace BK376 := n0_; replace BK390 := n1_; replace HB := n2_; clear n0_ n1_ n2_; (try clear hb)) | ((with_reducible refine gate_dst (N := 29) rfl ?_); refine box_event ?hg (N := 29) ?hd (cs := #[.int .i64 0, .int .i64 0]) (t := 43) ?hr ?_; (case hd => rfl); (case hg => rfl); (case hr => first | (go_simp; done) | (go_simp; rfl)); intro gb402 hg w35 hbox hb; have n0_ := kB BK376 hb; have n1_ := kB BK390 hb; have n2_ := kH HB hb; have n3_ := Aside0.mk (hbox); have n4_ := kG HB hg; have n5_ := kG HB hg; have n6_ := kL BK376 hg; have n7_ := kR BK376 hg; have n8_ := kL BK390 hg; have n9_ := kR BK390 hg; replace BK376 := n0_; replace BK390 := n1_; replace HB := n2_; have BK402 := n3_; have GW402 := n4_; have GE402 := n5_; have NB376_402 := n6_; have NB402_376 := n7_; have NB390_402 := n8_; have NB402_390 := n9_; clear n0_ n1_ n2_ n3_ n4_ n5_ n6_ n7_ n8_ n9_; clear hb hbox hg; have hnb36 := NB402_376.out; have hnc36 := NB376_402.out; have hnb37 := NB402_390.out; have hnc37 := NB390_402.out; have hcz38_0 : w35.cell? ⟨gb402, 0, none⟩ = some (.int .i64 0) := (blk_cell BK402.out 0).trans rfl; have hcz38_1 : w35.cell? ⟨gb402, 1, none⟩ = some (.int .i64 0) := (blk_cell BK402.out 1).trans rfl; have hfz38_0 := blk_frozen BK402.out 0; have hfz38_1 := blk_frozen BK402.out 1) | ((with_reducible refine gate_callee (f := 36) rfl ?_); refine kE (some 130) Try.func36 #[.int .i64 t399, .agg #[.int .i64 t400, .int .i64 t401]] rfl ?_; (with_reducible refine (impl_AgesFromGap.calls k t399 t400 t401 t403 t404 t405 t406 _ A14.out).mono ?_); rintro e w39 ⟨rfl, hb⟩; refine ⟨_, rfl, ?_⟩; have n0_ := kB BK376 hb; have n1_ := kB BK390 hb; have n2_ := Aside0.mk (blk_below (g := gb402) (o := .cells #[.int .i64 t400, .int .i64 t401] 43 (0, 0)) (by (with_reducible repeat (first | refine blk_drewN ?_ _ | refine blk_drew ?_ | refine blk_alloc ?_ _)); refine blk_put (cs := #[.int .i64 t400, .int .i64 0]) ?_ 1 _ rfl; (with_reducible repeat (first | refine blk_drewN ?_ _ | refine blk_drew ?_ | refine blk_alloc ?_ _)); refine blk_put (cs := #[.int .i64 0, .int .i64 0]) ?_ 0 _ rfl; (with_reducible repeat (first | refine blk_drewN ?_ _ | refine blk_drew ?_ | refine blk_alloc ?_ _)); exact BK402.out) hb); have n3_ := kH HB hb; replace BK376 := n0_; replace BK390 := n1_; replace BK402 := n2_; replace HB := n3_; clear n0_ n1_ n2_ n3_; (try clear hb); have hcz40_0 : w39.cell? ⟨gb402, 0, none⟩ = some (.int .i64 t400) := (blk_cell BK402.out 0).trans rfl; have hcz40_1 : w39.cell? ⟨gb402, 1, none⟩ = some (.int .i64 t401) := (blk_cell BK402.out 1).trans rfl; have hfz40_0 := blk_frozen BK402.out 0; have hfz40_1 := blk_frozen BK402.out 1) | ((with_reducible refine gate_callee (f := 37) rfl ?_); refine kE (some 138) Try.func37 #[.int .i64 t399, .agg #[.int .i64 t400, .int .i64 t401]] rfl ?_; (with_reducible refine (spec_AgesFromGap.calls k t399 t400 t401 t407 t408 t409 t410 _ A15.out).mono ?_); rintro e w41 ⟨rfl, hb⟩; refine ⟨_, rfl, ?_⟩; have n0_ := kB BK376 hb; have n1_ := kB BK390 hb; have n2_ := kB BK402 hb; have n3_ := kH HB hb; replace BK376 := n0_; replace BK390 := n1_; replace BK402 := n2_; replace HB := n3_; clear n0_ n1_ n2_ n3_; (try clear hb)))
  (try simp only [Act.put, List.setIfInBounds_toArray, List.set_cons_zero, List.set_cons_succ])
  go_cut [205] from 1 to 0 (fun v205 wc => ∃ (kq : Nat) (x205_15 : Bool), v205 = .bool x205_15 ∧ Aside0 (laws_FnRatiosFound.j0 kq l1 t372 t373 t377 t378 t379 t383 t384 t387 t391 t392 t393 t394 t399 t403 t404 t405 t406 x205_15 t374 t375 t388 t389 t400 t401 = some r) ∧ Aside0 (kq ≤ k) ∧ Aside0 (wc.heap[gb376]? = some (.cells #[.int .i64 t374, .int .i64 t375] 43 (0, 0))) ∧ Aside0 (wc.heap[gb390]? = some (.cells #[.int .i64 t388, .int .i64 t389] 43 (0, 0))) ∧ Aside0 (wc.heap[gb402]? = some (.cells #[.int .i64 t400, .int .i64 t401] 43 (0, 0))) ∧ Aside0 (Below w.heap.size w wc))
  case first =>
   as_aux_lemma =>
    have H := HC16.out
    clear HC16
    by_cases c42 : (t379 != t382) = true
    ·rw [if_pos c42] at H
     exact absurd H (by simp)
    ·rw [if_neg c42] at H
     have c42b0 : (t379 != t382) = false := by simpa using c42
     (try (have c42b1 : decide (t379 = t382) = true := by simpa using c42))
     (try (have c42b2 : (t379 == t382) = true := by simpa using c42))
     clear c42
     (first | rw [c42b0] | (simp only [i64_w, i32_w]; rw [c42b0]) | skip)
     by_cases c43 : t377 = t380
     ·rw [if_pos c43] at H
      have c43b0 : (t377 == t380) = true := beq_iff_eq.mpr c43
      have c43b1 : (t377 != t380) = false := bne_eq_false_iff_eq.mpr c43
      clear c43
      by_cases c44 : t378 = t381
      ·rw [if_pos c44] at H
       have c44b0 : (t378 == t381) = true := beq_iff_eq.mpr c44
       have c44b1 : (t378 != t381) = false := bne_eq_false_iff_eq.mpr c44
       clear c44
       by_cases c45 : (t384 != t386) = true
       ·rw [if_pos c45] at H
        exact absurd H (by simp)
       ·rw [if_neg c45] at H
        have c45b0 : (t384 != t386) = false := by simpa using c45
        (try (have c45b1 : decide (t384 = t386) = true := by simpa using c45))
        (try (have c45b2 : (t384 == t386) = true := by simpa using c45))
        clear c45
        by_cases c46 : t383 = t385
        ·rw [if_pos c46] at H
         have c46b0 : (t383 == t385) = true := beq_iff_eq.mpr c46
         have c46b1 : (t383 != t385) = false := bne_eq_false_iff_eq.mpr c46
         clear c46
         by_cases c47 : (t394 != t398) = true
         ·rw [if_pos c47] at H
          exact absurd H (by simp)
         ·rw [if_neg c47] at H
          have c47b0 : (t394 != t398) = false := by simpa using c47
          (try (have c47b1 : decide (t394 = t398) = true := by simpa using c47))
          (try (have c47b2 : (t394 == t398) = true := by simpa using c47))
          clear c47
          by_cases c48 : t391 = t395
          ·rw [if_pos c48] at H
           have c48b0 : (t391 == t395) = true := beq_iff_eq.mpr c48
           have c48b1 : (t391 != t395) = false := bne_eq_false_iff_eq.mpr c48
           clear c48
           by_cases c49 : t392 = t396
           ·rw [if_pos c49] at H
            have c49b0 : (t392 == t396) = true := beq_iff_eq.mpr c49
            have c49b1 : (t392 != t396) = false := bne_eq_false_iff_eq.mpr c49
            clear c49
            by_cases c50 : t393 = t397
            ·rw [if_pos c50] at H
             have c50b0 : (t393 == t397) = true := beq_iff_eq.mpr c50
             have c50b1 : (t393 != t397) = false := bne_eq_false_iff_eq.mpr c50
             clear c50
             by_cases c51 : (t406 != t410) = true
             ·rw [if_pos c51] at H
              exact absurd H (by simp)
             ·rw [if_neg c51] at H
              have c51b0 : (t406 != t410) = false := by simpa using c51
              (try (have c51b1 : decide (t406 = t410) = true := by simpa using c51))
              (try (have c51b2 : (t406 == t410) = true := by simpa using c51))
              clear c51
              by_cases c52 : t403 = t407
              ·rw [if_pos c52] at H
               have c52b0 : (t403 == t407) = true := beq_iff_eq.mpr c52
               have c52b1 : (t403 != t407) = false := bne_eq_false_iff_eq.mpr c52
               clear c52
               by_cases c53 : t404 = t408
               ·rw [if_pos c53] at H
                have c53b0 : (t404 == t408) = true := beq_iff_eq.mpr c53
                have c53b1 : (t404 != t408) = false := bne_eq_false_iff_eq.mpr c53
                clear c53
                have H' := Aside0.mk H
                clear H
                go_wp2
                go_meet
                case rel => exact ⟨_, ((t405 != t409)), (by first | rfl | (simp; done) | (simp [*]; done)), H', ⟨by first | omega | exact Nat.le_refl _⟩, kA, kA, kA, kI⟩
               ·rw [if_neg c53] at H
                exact absurd H (by simp)
              ·rw [if_neg c52] at H
               exact absurd H (by simp)
            ·rw [if_neg c50] at H
             exact absurd H (by simp)
           ·rw [if_neg c49] at H
            exact absurd H (by simp)
          ·rw [if_neg c48] at H
           exact absurd H (by simp)
        ·rw [if_neg c46] at H
         exact absurd H (by simp)
      ·rw [if_neg c44] at H
       exact absurd H (by simp)
     ·rw [if_neg c43] at H
      exact absurd H (by simp)
  case rest =>
   clear HC16
   try clear c1
   try clear c4
   try clear hcz19_0
   try clear hcz19_1
   try clear hcz21_0
   try clear hcz21_1
   try clear hcz23_0
   try clear hcz23_1
   try clear hcz25_0
   try clear hcz25_1
   try clear hcz30_0
   try clear hcz30_1
   try clear hcz32_0
   try clear hcz32_1
   try clear hcz38_0
   try clear hcz38_1
   try clear hcz40_0
   try clear hcz40_1
   try clear hfz19_0
   try clear hfz19_1
   try clear hfz21_0
   try clear hfz21_1
   try clear hfz23_0
   try clear hfz23_1
   try clear hfz25_0
   try clear hfz25_1
   try clear hfz30_0
   try clear hfz30_1
   try clear hfz32_0
   try clear hfz32_1
   try clear hfz38_0
   try clear hfz38_1
   try clear hfz40_0
   try clear hfz40_1
   obtain ⟨kq, x205_15, rfl, HA, HJ15, BK376, BK390, BK402, HB⟩ := hcut
   cases kq with
   | zero => exact absurd HA.out (by simp [laws_FnRatiosFound.j0])
   | succ kj15 =>
    have H := HA.out
    clear HA
    simp only [laws_FnRatiosFound.j0] at H
    by_cases c54 : x205_15 = true
    ·subst c54
     have H1 : (none) = some r := by rw [if_pos rfl] at H; exact H
     clear H
     have H := H1
     clear H1
     exact absurd H (by simp)
    ·replace c54 := Bool.eq_false_iff.mpr c54
     subst c54
     have H1 : (if t379 = true then ((laws_gLow.f kj15 t377 t378).bind fun t411 => (if t411 = true then (if (wrap64 (t375 * (wrap64 ((wrap64 (t372 * t378)) + t377)))) = (wrap64 (t374 * (wrap64 ((wrap64 (t373 * t378)) + t377)))) then (if (wrap64 ((wrap64 (t372 * t378)) + t377)) ≤ 0 then (none) else (laws_FnRatiosFound.j1 kj15 l1 t377 t378 t383 t384 t387 t391 t392 t393 t394 t399 t403 t404 t405 t406 (decide ((wrap64 ((wrap64 (t373 * t378)) + t377)) ≤ 0)) t388 t389 t400 t401)) else (none)) else (none))) else (laws_FnRatiosFound.j2 kj15 l1 t387 t391 t392 t393 t394 t399 t403 t404 t405 t406 t388 t389 t400 t401)) = some r := by rw [if_neg (show ¬ (false = true) by decide)] at H; exact H
     clear H
     have H := H1
     clear H1
     have HC55 := Aside0.mk H
     clear H
     go_upto_if 206 with (fail)
     go_cut [] from 206 to 206 (fun wc => ∃ (kq : Nat), Aside0 (laws_FnRatiosFound.j2 kq l1 t387 t391 t392 t393 t394 t399 t403 t404 t405 t406 t388 t389 t400 t401 = some r) ∧ Aside0 (kq ≤ kj15) ∧ Aside0 (wc.heap[gb376]? = some (.cells #[.int .i64 t374, .int .i64 t375] 43 (0, 0))) ∧ Aside0 (wc.heap[gb390]? = some (.cells #[.int .i64 t388, .int .i64 t389] 43 (0, 0))) ∧ Aside0 (wc.heap[gb402]? = some (.cells #[.int .i64 t400, .int .i64 t401] 43 (0, 0))) ∧ Aside0 (Below w.heap.size w wc))
     case first =>
      as_aux_lemma =>
       have H := HC55.out
       clear HC55
       by_cases c56 : t379 = true
       ·subst c56
        have H1 : ((laws_gLow.f kj15 t377 t378).bind fun t411 => (if t411 = true then (if (wrap64 (t375 * (wrap64 ((wrap64 (t372 * t378)) + t377)))) = (wrap64 (t374 * (wrap64 ((wrap64 (t373 * t378)) + t377)))) then (if (wrap64 ((wrap64 (t372 * t378)) + t377)) ≤ 0 then (none) else (laws_FnRatiosFound.j1 kj15 l1 t377 t378 t383 t384 t387 t391 t392 t393 t394 t399 t403 t404 t405 t406 (decide ((wrap64 ((wrap64 (t373 * t378)) + t377)) ≤ 0)) t388 t389 t400 t401)) else (none)) else (none))) = some r := by rw [if_pos rfl] at H; exact H
        clear H
        have H := H1
        clear H1
        have HC57 := Aside0.mk H
        clear H
        go_upto_region 17 with (fail)
        go_cut [245] from 1 to 0 (fun v245 wc => ∃ (kq : Nat) (x245_56 : Bool), v245 = .bool x245_56 ∧ Aside0 (laws_FnRatiosFound.j1 kq l1 t377 t378 t383 t384 t387 t391 t392 t393 t394 t399 t403 t404 t405 t406 x245_56 t388 t389 t400 t401 = some r) ∧ Aside0 (kq ≤ kj15) ∧ Aside0 (wc.heap[gb376]? = some (.cells #[.int .i64 t374, .int .i64 t375] 43 (0, 0))) ∧ Aside0 (wc.heap[gb390]? = some (.cells #[.int .i64 t388, .int .i64 t389] 43 (0, 0))) ∧ Aside0 (wc.heap[gb402]? = some (.cells #[.int .i64 t400, .int .i64 t401] 43 (0, 0))) ∧ Aside0 (Below w.heap.size w wc))
        case first =>
         as_aux_lemma =>
          have H := HC57.out
          clear HC57
          replace H := Option.bind_eq_some_iff.mp H
          obtain ⟨t411, A580, H⟩ := H
          replace H : (if t411 = true then (if (wrap64 (t375 * (wrap64 ((wrap64 (t372 * t378)) + t377)))) = (wrap64 (t374 * (wrap64 ((wrap64 (t373 * t378)) + t377)))) then (if (wrap64 ((wrap64 (t372 * t378)) + t377)) ≤ 0 then (none) else (laws_FnRatiosFound.j1 kj15 l1 t377 t378 t383 t384 t387 t391 t392 t393 t394 t399 t403 t404 t405 t406 (decide ((wrap64 ((wrap64 (t373 * t378)) + t377)) ≤ 0)) t388 t389 t400 t401)) else (none)) else (none)) = some r := H
          have A58 := Aside0.mk A580
          clear A580
          by_cases c59 : t411 = true
          ·subst c59
           have H1 : (if (wrap64 (t375 * (wrap64 ((wrap64 (t372 * t378)) + t377)))) = (wrap64 (t374 * (wrap64 ((wrap64 (t373 * t378)) + t377)))) then (if (wrap64 ((wrap64 (t372 * t378)) + t377)) ≤ 0 then (none) else (laws_FnRatiosFound.j1 kj15 l1 t377 t378 t383 t384 t387 t391 t392 t393 t394 t399 t403 t404 t405 t406 (decide ((wrap64 ((wrap64 (t373 * t378)) + t377)) ≤ 0)) t388 t389 t400 t401)) else (none)) = some r := by rw [if_pos rfl] at H; exact H
           clear H
           have H := H1
           clear H1
           by_cases c60 : (wrap64 (t375 * (wrap64 ((wrap64 (t372 * t378)) + t377)))) = (wrap64 (t374 * (wrap64 ((wrap64 (t373 * t378)) + t377))))
           ·rw [if_pos c60] at H
            have c60b0 : ((wrap64 (t375 * (wrap64 ((wrap64 (t372 * t378)) + t377)))) == (wrap64 (t374 * (wrap64 ((wrap64 (t373 * t378)) + t377))))) = true := beq_iff_eq.mpr c60
            have c60b1 : ((wrap64 (t375 * (wrap64 ((wrap64 (t372 * t378)) + t377)))) != (wrap64 (t374 * (wrap64 ((wrap64 (t373 * t378)) + t377))))) = false := bne_eq_false_iff_eq.mpr c60
            clear c60
            (first | rw [c60b0] | (simp only [i64_w, i32_w]; rw [c60b0]) | skip)
            by_cases c61 : (wrap64 ((wrap64 (t372 * t378)) + t377)) ≤ 0
            ·rw [if_pos c61] at H
             exact absurd H (by simp)
            ·rw [if_neg c61] at H
             have c61b0 : decide ((wrap64 ((wrap64 (t372 * t378)) + t377)) ≤ 0) = false := decide_eq_false c61
             clear c61
             have H' := Aside0.mk H
             clear H
             go_wp2_with (first | ((with_reducible refine gate_callee (f := 38) rfl ?_); refine kE (some 209) Try.func38 #[.int .i64 t377, .int .i64 t378] rfl ?_; (with_reducible refine (laws_gLow.calls kj15 t377 t378 true _ A58.out).mono ?_); rintro e w' ⟨rfl, ⟨nd, rfl⟩⟩; refine ⟨_, rfl, ?_⟩; have hnb62 := NB376_390.out; have hnc62 := NB390_376.out; have hnb63 := NB376_402.out; have hnc63 := NB402_376.out; have hcz64_0 : wc.cell? ⟨gb376, 0, none⟩ = some (.int .i64 t374) := (blk_cell BK376.out 0).trans rfl; have hcz64_1 : wc.cell? ⟨gb376, 1, none⟩ = some (.int .i64 t375) := (blk_cell BK376.out 1).trans rfl; have hfz64_0 := blk_frozen BK376.out 0; have hfz64_1 := blk_frozen BK376.out 1))
             go_meet
             case rel => exact ⟨_, (decide ((wrap64 ((wrap64 (t373 * t378)) + t377)) ≤ 0)), (by first | rfl | (simp; done) | (simp [*]; done)), H', ⟨by have := HJ15.out; first | omega | exact Nat.le_refl _⟩, kA, kA, kA, kI⟩
           ·rw [if_neg c60] at H
            exact absurd H (by simp)
          ·replace c59 := Bool.eq_false_iff.mpr c59
           subst c59
           have H1 : (none) = some r := by rw [if_neg (show ¬ (false = true) by decide)] at H; exact H
           clear H
           have H := H1
           clear H1
           exact absurd H (by simp)
        case rest =>
         clear HC57
         try clear c1
         try clear c4
         try clear c54
         try clear c56
         try clear hcz19_0
         try clear hcz19_1
         try clear hcz21_0
         try clear hcz21_1
         try clear hcz23_0
         try clear hcz23_1
         try clear hcz25_0
         try clear hcz25_1
         try clear hcz30_0
         try clear hcz30_1
         try clear hcz32_0
         try clear hcz32_1
         try clear hcz38_0
         try clear hcz38_1
         try clear hcz40_0
         try clear hcz40_1
         try clear hfz19_0
         try clear hfz19_1
         try clear hfz21_0
         try clear hfz21_1
         try clear hfz23_0
         try clear hfz23_1
         try clear hfz25_0
         try clear hfz25_1
         try clear hfz30_0
         try clear hfz30_1
         try clear hfz32_0
         try clear hfz32_1
         try clear hfz38_0
         try clear hfz38_1
         try clear hfz40_0
         try clear hfz40_1
         obtain ⟨kq, x245_56, rfl, HA, HJ56, BK376, BK390, BK402, HB⟩ := hcut
         cases kq with
         | zero => exact absurd HA.out (by simp [laws_FnRatiosFound.j1])
         | succ kj56 =>
          have H := HA.out
          clear HA
          simp only [laws_FnRatiosFound.j1] at H
          by_cases c65 : x245_56 = true
          ·subst c65
           have H1 : (none) = some r := by rw [if_pos rfl] at H; exact H
           clear H
           have H := H1
           clear H1
           exact absurd H (by simp)
          ·replace c65 := Bool.eq_false_iff.mpr c65
           subst c65
           have H1 : (if t378 = 1 then (if t384 = true then (if t377 ≤ 120 then (if t383 = t377 then (laws_FnRatiosFound.j2 kj56 l1 t387 t391 t392 t393 t394 t399 t403 t404 t405 t406 t388 t389 t400 t401) else (none)) else (laws_FnRatiosFound.j2 kj56 l1 t387 t391 t392 t393 t394 t399 t403 t404 t405 t406 t388 t389 t400 t401)) else (laws_FnRatiosFound.j2 kj56 l1 t387 t391 t392 t393 t394 t399 t403 t404 t405 t406 t388 t389 t400 t401)) else (laws_FnRatiosFound.j2 kj56 l1 t387 t391 t392 t393 t394 t399 t403 t404 t405 t406 t388 t389 t400 t401)) = some r := by rw [if_neg (show ¬ (false = true) by decide)] at H; exact H
           clear H
           have H := H1
           clear H1
           by_cases c66 : t378 = 1
           ·rw [if_pos c66] at H
            have c66b0 : (t378 == 1) = true := beq_iff_eq.mpr c66
            have c66b1 : (t378 != 1) = false := bne_eq_false_iff_eq.mpr c66
            clear c66
            by_cases c67 : t384 = true
            ·subst c67
             have H1 : (if t377 ≤ 120 then (if t383 = t377 then (laws_FnRatiosFound.j2 kj56 l1 t387 t391 t392 t393 t394 t399 t403 t404 t405 t406 t388 t389 t400 t401) else (none)) else (laws_FnRatiosFound.j2 kj56 l1 t387 t391 t392 t393 t394 t399 t403 t404 t405 t406 t388 t389 t400 t401)) = some r := by rw [if_pos rfl] at H; exact H
             clear H
             have H := H1
             clear H1
             by_cases c68 : t377 ≤ 120
             ·rw [if_pos c68] at H
              have c68b0 : decide (t377 ≤ 120) = true := decide_eq_true c68
              clear c68
              by_cases c69 : t383 = t377
              ·rw [if_pos c69] at H
               have c69b0 : (t383 == t377) = true := beq_iff_eq.mpr c69
               have c69b1 : (t383 != t377) = false := bne_eq_false_iff_eq.mpr c69
               clear c69
               have H' := Aside0.mk H
               clear H
               go_wp2
               go_meet
               case rel => exact ⟨_, H', ⟨by have := HJ15.out; have := HJ56.out; first | omega | exact Nat.le_refl _⟩, kA, kA, kA, kI⟩
              ·rw [if_neg c69] at H
               exact absurd H (by simp)
             ·rw [if_neg c68] at H
              have c68b0 : decide (t377 ≤ 120) = false := decide_eq_false c68
              clear c68
              have H' := Aside0.mk H
              clear H
              go_wp2
              go_meet
              case rel => exact ⟨_, H', ⟨by have := HJ15.out; have := HJ56.out; first | omega | exact Nat.le_refl _⟩, kA, kA, kA, kI⟩
            ·replace c67 := Bool.eq_false_iff.mpr c67
             subst c67
             have H1 : (laws_FnRatiosFound.j2 kj56 l1 t387 t391 t392 t393 t394 t399 t403 t404 t405 t406 t388 t389 t400 t401) = some r := by rw [if_neg (show ¬ (false = true) by decide)] at H; exact H
             clear H
             have H := H1
             clear H1
             have H' := Aside0.mk H
             clear H
             go_wp2
             go_meet
             case rel => exact ⟨_, H', ⟨by have := HJ15.out; have := HJ56.out; first | omega | exact Nat.le_refl _⟩, kA, kA, kA, kI⟩
           ·rw [if_neg c66] at H
            have c66b0 : (t378 == 1) = false := beq_eq_false_iff_ne.mpr c66
            have c66b1 : (t378 != 1) = true := bne_iff_ne.mpr c66
            have H' := Aside0.mk H
            clear H
            go_wp2
            go_meet
            case rel => exact ⟨_, H', ⟨by have := HJ15.out; have := HJ56.out; first | omega | exact Nat.le_refl _⟩, kA, kA, kA, kI⟩
       ·replace c56 := Bool.eq_false_iff.mpr c56
        subst c56
        have H1 : (laws_FnRatiosFound.j2 kj15 l1 t387 t391 t392 t393 t394 t399 t403 t404 t405 t406 t388 t389 t400 t401) = some r := by rw [if_neg (show ¬ (false = true) by decide)] at H; exact H
        clear H
        have H := H1
        clear H1
        have H' := Aside0.mk H
        clear H
        go_wp2
        go_meet
        case rel => exact ⟨_, H', ⟨by have := HJ15.out; first | omega | exact Nat.le_refl _⟩, kA, kA, kA, kI⟩
     case rest =>
      clear HC55
      try clear c1
      try clear c4
      try clear c54
      try clear hcz19_0
      try clear hcz19_1
      try clear hcz21_0
      try clear hcz21_1
      try clear hcz23_0
      try clear hcz23_1
      try clear hcz25_0
      try clear hcz25_1
      try clear hcz30_0
      try clear hcz30_1
      try clear hcz32_0
      try clear hcz32_1
      try clear hcz38_0
      try clear hcz38_1
      try clear hcz40_0
      try clear hcz40_1
      try clear hfz19_0
      try clear hfz19_1
      try clear hfz21_0
      try clear hfz21_1
      try clear hfz23_0
      try clear hfz23_1
      try clear hfz25_0
      try clear hfz25_1
      try clear hfz30_0
      try clear hfz30_1
      try clear hfz32_0
      try clear hfz32_1
      try clear hfz38_0
      try clear hfz38_1
      try clear hfz40_0
      try clear hfz40_1
      obtain ⟨kq, HA, HJ54, BK376, BK390, BK402, HB⟩ := hcut
      cases kq with
      | zero => exact absurd HA.out (by simp [laws_FnRatiosFound.j2])
      | succ kj54 =>
       have H := HA.out
       clear HA
       simp only [laws_FnRatiosFound.j2] at H
       have HC70 := Aside0.mk H
       clear H
       go_upto_region 21 with (fail)
       go_cut [299] from 1 to 0 (fun v299 wc => ∃ (kq : Nat) (x299_69 : Bool), v299 = .bool x299_69 ∧ Aside0 (laws_FnRatiosFound.j3 kq l1 t399 t403 t404 t405 t406 x299_69 t400 t401 = some r) ∧ Aside0 (kq ≤ kj54) ∧ Aside0 (wc.heap[gb376]? = some (.cells #[.int .i64 t374, .int .i64 t375] 43 (0, 0))) ∧ Aside0 (wc.heap[gb390]? = some (.cells #[.int .i64 t388, .int .i64 t389] 43 (0, 0))) ∧ Aside0 (wc.heap[gb402]? = some (.cells #[.int .i64 t400, .int .i64 t401] 43 (0, 0))) ∧ Aside0 (Below w.heap.size w wc))
       case first =>
        as_aux_lemma =>
         have H := HC70.out
         clear HC70
         by_cases c71 : t394 = true
         ·subst c71
          have H1 : (if t393 < 1 then (none) else (if (wrap64 (t391 + t392)) = (wrap64 (t387 * t393)) then (if (wrap64 (t391 * t389)) = (wrap64 (t392 * t388)) then (if t391 < 1 then (none) else (if t392 < 1 then (none) else ((laws_gThree.f kj54 t391 t392 t393).bind fun t412 => (laws_FnRatiosFound.j3 kj54 l1 t399 t403 t404 t405 t406 (t412 != 1) t400 t401)))) else (none)) else (none))) = some r := by rw [if_pos rfl] at H; exact H
          clear H
          have H := H1
          clear H1
          by_cases c72 : t393 < 1
          ·rw [if_pos c72] at H
           exact absurd H (by simp)
          ·rw [if_neg c72] at H
           have c72b0 : decide (t393 < 1) = false := decide_eq_false c72
           clear c72
           (first | rw [c72b0] | (simp only [i64_w, i32_w]; rw [c72b0]) | skip)
           by_cases c73 : (wrap64 (t391 + t392)) = (wrap64 (t387 * t393))
           ·rw [if_pos c73] at H
            have c73b0 : ((wrap64 (t391 + t392)) == (wrap64 (t387 * t393))) = true := beq_iff_eq.mpr c73
            have c73b1 : ((wrap64 (t391 + t392)) != (wrap64 (t387 * t393))) = false := bne_eq_false_iff_eq.mpr c73
            clear c73
            by_cases c74 : (wrap64 (t391 * t389)) = (wrap64 (t392 * t388))
            ·rw [if_pos c74] at H
             have c74b0 : ((wrap64 (t391 * t389)) == (wrap64 (t392 * t388))) = true := beq_iff_eq.mpr c74
             have c74b1 : ((wrap64 (t391 * t389)) != (wrap64 (t392 * t388))) = false := bne_eq_false_iff_eq.mpr c74
             clear c74
             by_cases c75 : t391 < 1
             ·rw [if_pos c75] at H
              exact absurd H (by simp)
             ·rw [if_neg c75] at H
              have c75b0 : decide (t391 < 1) = false := decide_eq_false c75
              clear c75
              by_cases c76 : t392 < 1
              ·rw [if_pos c76] at H
               exact absurd H (by simp)
              ·rw [if_neg c76] at H
               have c76b0 : decide (t392 < 1) = false := decide_eq_false c76
               clear c76
               replace H := Option.bind_eq_some_iff.mp H
               obtain ⟨t412, A770, H⟩ := H
               replace H : (laws_FnRatiosFound.j3 kj54 l1 t399 t403 t404 t405 t406 (t412 != 1) t400 t401) = some r := H
               have A77 := Aside0.mk A770
               clear A770
               have H' := Aside0.mk H
               clear H
               have hnb78 := NB390_376.out
               have hnc78 := NB376_390.out
               have hnb79 := NB390_402.out
               have hnc79 := NB402_390.out
               have hcz80_0 : wc.cell? ⟨gb390, 0, none⟩ = some (.int .i64 t388) := (blk_cell BK390.out 0).trans rfl
               have hcz80_1 : wc.cell? ⟨gb390, 1, none⟩ = some (.int .i64 t389) := (blk_cell BK390.out 1).trans rfl
               have hfz80_0 := blk_frozen BK390.out 0
               have hfz80_1 := blk_frozen BK390.out 1
               go_wp2_with (first | (go_at_call 39; (with_reducible refine (laws_gThree.calls kj54 t391 t392 t393 t412 _ A77.out).mono ?_); rintro e w' ⟨rfl, ⟨nd, rfl⟩⟩))
               go_meet
               case rel => exact ⟨_, ((t412 != 1)), (by first | rfl | (simp; done) | (simp [*]; done)), H', ⟨by have := HJ15.out; have := HJ54.out; first | omega | exact Nat.le_refl _⟩, kA, kA, kA, kI⟩
            ·rw [if_neg c74] at H
             exact absurd H (by simp)
           ·rw [if_neg c73] at H
            exact absurd H (by simp)
         ·replace c71 := Bool.eq_false_iff.mpr c71
          subst c71
          have H1 : (laws_FnRatiosFound.j3 kj54 l1 t399 t403 t404 t405 t406 false t400 t401) = some r := by rw [if_neg (show ¬ (false = true) by decide)] at H; exact H
          clear H
          have H := H1
          clear H1
          have H' := Aside0.mk H
          clear H
          go_wp2
          go_meet
          case rel => exact ⟨_, (false), (by first | rfl | (simp; done) | (simp [*]; done)), H', ⟨by have := HJ15.out; have := HJ54.out; first | omega | exact Nat.le_refl _⟩, kA, kA, kA, kI⟩
       case rest =>
        clear HC70
        try clear c1
        try clear c4
        try clear c54
        try clear hcz19_0
        try clear hcz19_1
        try clear hcz21_0
        try clear hcz21_1
        try clear hcz23_0
        try clear hcz23_1
        try clear hcz25_0
        try clear hcz25_1
        try clear hcz30_0
        try clear hcz30_1
        try clear hcz32_0
        try clear hcz32_1
        try clear hcz38_0
        try clear hcz38_1
        try clear hcz40_0
        try clear hcz40_1
        try clear hfz19_0
        try clear hfz19_1
        try clear hfz21_0
        try clear hfz21_1
        try clear hfz23_0
        try clear hfz23_1
        try clear hfz25_0
        try clear hfz25_1
        try clear hfz30_0
        try clear hfz30_1
        try clear hfz32_0
        try clear hfz32_1
        try clear hfz38_0
        try clear hfz38_1
        try clear hfz40_0
        try clear hfz40_1
        obtain ⟨kq, x299_69, rfl, HA, HJ69, BK376, BK390, BK402, HB⟩ := hcut
        cases kq with
        | zero => exact absurd HA.out (by simp [laws_FnRatiosFound.j3])
        | succ kj69 =>
         have H := HA.out
         clear HA
         simp only [laws_FnRatiosFound.j3] at H
         by_cases c81 : x299_69 = true
         ·subst c81
          have H1 : (none) = some r := by rw [if_pos rfl] at H; exact H
          clear H
          have H := H1
          clear H1
          exact absurd H (by simp)
         ·replace c81 := Bool.eq_false_iff.mpr c81
          subst c81
          have H1 : (if t406 = true then (if t405 < 1 then (none) else (if (wrap64 (t403 - t404)) = (wrap64 (t399 * t405)) then (if (wrap64 (t403 * t401)) = (wrap64 (t404 * t400)) then (if t403 < 1 then (none) else (if t404 < 1 then (none) else ((laws_gThree.f kj69 t403 t404 t405).bind fun t413 => (laws_FnRatiosFound.j4 kj69 l1 (t413 != 1))))) else (none)) else (none))) else (laws_FnRatiosFound.j4 kj69 l1 false)) = some r := by rw [if_neg (show ¬ (false = true) by decide)] at H; exact H
          clear H
          have H := H1
          clear H1
          have HC82 := Aside0.mk H
          clear H
          go_upto_region 23 with (fail)
          go_cut [339] from 1 to 0 (fun v339 wc => ∃ (kq : Nat) (x339_81 : Bool), v339 = .bool x339_81 ∧ Aside0 (laws_FnRatiosFound.j4 kq l1 x339_81 = some r) ∧ Aside0 (kq ≤ kj69) ∧ Aside0 (wc.heap[gb376]? = some (.cells #[.int .i64 t374, .int .i64 t375] 43 (0, 0))) ∧ Aside0 (wc.heap[gb390]? = some (.cells #[.int .i64 t388, .int .i64 t389] 43 (0, 0))) ∧ Aside0 (wc.heap[gb402]? = some (.cells #[.int .i64 t400, .int .i64 t401] 43 (0, 0))) ∧ Aside0 (Below w.heap.size w wc))
          case first =>
           as_aux_lemma =>
            have H := HC82.out
            clear HC82
            by_cases c83 : t406 = true
            ·subst c83
             have H1 : (if t405 < 1 then (none) else (if (wrap64 (t403 - t404)) = (wrap64 (t399 * t405)) then (if (wrap64 (t403 * t401)) = (wrap64 (t404 * t400)) then (if t403 < 1 then (none) else (if t404 < 1 then (none) else ((laws_gThree.f kj69 t403 t404 t405).bind fun t413 => (laws_FnRatiosFound.j4 kj69 l1 (t413 != 1))))) else (none)) else (none))) = some r := by rw [if_pos rfl] at H; exact H
             clear H
             have H := H1
             clear H1
             by_cases c84 : t405 < 1
             ·rw [if_pos c84] at H
              exact absurd H (by simp)
             ·rw [if_neg c84] at H
              have c84b0 : decide (t405 < 1) = false := decide_eq_false c84
              clear c84
              (first | rw [c84b0] | (simp only [i64_w, i32_w]; rw [c84b0]) | skip)
              by_cases c85 : (wrap64 (t403 - t404)) = (wrap64 (t399 * t405))
              ·rw [if_pos c85] at H
               have c85b0 : ((wrap64 (t403 - t404)) == (wrap64 (t399 * t405))) = true := beq_iff_eq.mpr c85
               have c85b1 : ((wrap64 (t403 - t404)) != (wrap64 (t399 * t405))) = false := bne_eq_false_iff_eq.mpr c85
               clear c85
               by_cases c86 : (wrap64 (t403 * t401)) = (wrap64 (t404 * t400))
               ·rw [if_pos c86] at H
                have c86b0 : ((wrap64 (t403 * t401)) == (wrap64 (t404 * t400))) = true := beq_iff_eq.mpr c86
                have c86b1 : ((wrap64 (t403 * t401)) != (wrap64 (t404 * t400))) = false := bne_eq_false_iff_eq.mpr c86
                clear c86
                by_cases c87 : t403 < 1
                ·rw [if_pos c87] at H
                 exact absurd H (by simp)
                ·rw [if_neg c87] at H
                 have c87b0 : decide (t403 < 1) = false := decide_eq_false c87
                 clear c87
                 by_cases c88 : t404 < 1
                 ·rw [if_pos c88] at H
                  exact absurd H (by simp)
                 ·rw [if_neg c88] at H
                  have c88b0 : decide (t404 < 1) = false := decide_eq_false c88
                  clear c88
                  replace H := Option.bind_eq_some_iff.mp H
                  obtain ⟨t413, A890, H⟩ := H
                  replace H : (laws_FnRatiosFound.j4 kj69 l1 (t413 != 1)) = some r := H
                  have A89 := Aside0.mk A890
                  clear A890
                  have H' := Aside0.mk H
                  clear H
                  have hnb90 := NB402_376.out
                  have hnc90 := NB376_402.out
                  have hnb91 := NB402_390.out
                  have hnc91 := NB390_402.out
                  have hcz92_0 : wc.cell? ⟨gb402, 0, none⟩ = some (.int .i64 t400) := (blk_cell BK402.out 0).trans rfl
                  have hcz92_1 : wc.cell? ⟨gb402, 1, none⟩ = some (.int .i64 t401) := (blk_cell BK402.out 1).trans rfl
                  have hfz92_0 := blk_frozen BK402.out 0
                  have hfz92_1 := blk_frozen BK402.out 1
                  go_wp2_with (first | (go_at_call 39; (with_reducible refine (laws_gThree.calls kj69 t403 t404 t405 t413 _ A89.out).mono ?_); rintro e w' ⟨rfl, ⟨nd, rfl⟩⟩))
                  go_meet
                  case rel => exact ⟨_, ((t413 != 1)), (by first | rfl | (simp; done) | (simp [*]; done)), H', ⟨by have := HJ15.out; have := HJ54.out; have := HJ69.out; first | omega | exact Nat.le_refl _⟩, kA, kA, kA, kI⟩
               ·rw [if_neg c86] at H
                exact absurd H (by simp)
              ·rw [if_neg c85] at H
               exact absurd H (by simp)
            ·replace c83 := Bool.eq_false_iff.mpr c83
             subst c83
             have H1 : (laws_FnRatiosFound.j4 kj69 l1 false) = some r := by rw [if_neg (show ¬ (false = true) by decide)] at H; exact H
             clear H
             have H := H1
             clear H1
             have H' := Aside0.mk H
             clear H
             go_wp2
             go_meet
             case rel => exact ⟨_, (false), (by first | rfl | (simp; done) | (simp [*]; done)), H', ⟨by have := HJ15.out; have := HJ54.out; have := HJ69.out; first | omega | exact Nat.le_refl _⟩, kA, kA, kA, kI⟩
          case rest =>
           clear HC82
           try clear c1
           try clear c4
           try clear c54
           try clear c81
           try clear hcz19_0
           try clear hcz19_1
           try clear hcz21_0
           try clear hcz21_1
           try clear hcz23_0
           try clear hcz23_1
           try clear hcz25_0
           try clear hcz25_1
           try clear hcz30_0
           try clear hcz30_1
           try clear hcz32_0
           try clear hcz32_1
           try clear hcz38_0
           try clear hcz38_1
           try clear hcz40_0
           try clear hcz40_1
           try clear hfz19_0
           try clear hfz19_1
           try clear hfz21_0
           try clear hfz21_1
           try clear hfz23_0
           try clear hfz23_1
           try clear hfz25_0
           try clear hfz25_1
           try clear hfz30_0
           try clear hfz30_1
           try clear hfz32_0
           try clear hfz32_1
           try clear hfz38_0
           try clear hfz38_1
           try clear hfz40_0
           try clear hfz40_1
           obtain ⟨kq, x339_81, rfl, HA, HJ81, BK376, BK390, BK402, HB⟩ := hcut
           cases kq with
           | zero => exact absurd HA.out (by simp [laws_FnRatiosFound.j4])
           | succ kj81 =>
            have H := HA.out
            clear HA
            simp only [laws_FnRatiosFound.j4] at H
            by_cases c93 : x339_81 = true
            ·subst c93
             have H1 : (none) = some r := by rw [if_pos rfl] at H; exact H
             clear H
             have H := H1
             clear H1
             exact absurd H (by simp)
            ·replace c93 := Bool.eq_false_iff.mpr c93
             subst c93
             have H1 : ((spec_DrawAgesFromTwo.f l1).bind fun bt414 => ((impl_AgesFromTwo.f kj81 bt414.1 bt414.2.1 bt414.2.2.1 bt414.2.2.2.1 bt414.2.2.2.2).bind fun bt421 => ((spec_AgesFromTwo.f kj81 bt414.1 bt414.2.1 bt414.2.2.1 bt414.2.2.2.1 bt414.2.2.2.2).bind fun bt425 => ((spec_DrawAgesFromThen.f l1).bind fun bt429 => ((impl_AgesFromThen.f kj81 bt429.1 bt429.2.1 bt429.2.2.1 bt429.2.2.2.1 bt429.2.2.2.2.1 bt429.2.2.2.2.2).bind fun bt437 => ((spec_AgesFromThen.f kj81 bt429.1 bt429.2.1 bt429.2.2.1 bt429.2.2.2.1 bt429.2.2.2.2.1 bt429.2.2.2.2.2).bind fun bt441 => ((spec_DrawTurnRatio.f l1).bind fun bt445 => ((impl_TurnRatio.f bt445.1 bt445.2).bind fun bt448 => ((spec_TurnRatio.f bt445.1 bt445.2).bind fun bt452 => (if (bt421.2.2.2 != bt425.2.2.2) = true then (none) else (if bt421.1 = bt425.1 then (if bt421.2.1 = bt425.2.1 then (if bt421.2.2.1 = bt425.2.2.1 then (if (bt437.2.2.2 != bt441.2.2.2) = true then (none) else (if bt437.1 = bt441.1 then (if bt437.2.1 = bt441.2.1 then (if bt437.2.2.1 = bt441.2.2.1 then (if (bt448.2.2 != bt452.2.2) = true then (none) else (if (!(bt448.1 == bt452.1) || (!(bt448.2.1 == bt452.2.1))) = true then (none) else ((impl_IsRatio.f bt445.1 bt445.2).bind fun t456 => (if (bt448.2.2 != t456) = true then (none) else ((impl_IsRatio.f bt445.1 bt445.2).bind fun t457 => ((spec_IsRatio.f bt445.1 bt445.2).bind fun t458 => (laws_FnRatiosFound.j5 kj81 bt414.2.2.2.2 bt421.1 bt421.2.1 bt421.2.2.1 bt421.2.2.2 bt429.2.2.2.2.1 bt429.2.2.2.2.2 bt437.1 bt437.2.1 bt437.2.2.1 bt437.2.2.2 bt448.2.2 (t457 != t458) bt414.1 bt414.2.1 bt414.2.2.1 bt414.2.2.2.1 bt429.1 bt429.2.1 bt429.2.2.1 bt429.2.2.2.1 bt445.1 bt445.2 bt448.1 bt448.2.1))))))) else (none)) else (none)) else (none))) else (none)) else (none)) else (none)))))))))))) = some r := by rw [if_neg (show ¬ (false = true) by decide)] at H; exact H
             clear H
             have H := H1
             clear H1
             replace H := Option.bind_eq_some_iff.mp H
             obtain ⟨⟨t414, t415, t416, t417, t418⟩, A940, H⟩ := H
             replace H : ((impl_AgesFromTwo.f kj81 t414 t415 t416 t417 t418).bind fun bt421 => ((spec_AgesFromTwo.f kj81 t414 t415 t416 t417 t418).bind fun bt425 => ((spec_DrawAgesFromThen.f l1).bind fun bt429 => ((impl_AgesFromThen.f kj81 bt429.1 bt429.2.1 bt429.2.2.1 bt429.2.2.2.1 bt429.2.2.2.2.1 bt429.2.2.2.2.2).bind fun bt437 => ((spec_AgesFromThen.f kj81 bt429.1 bt429.2.1 bt429.2.2.1 bt429.2.2.2.1 bt429.2.2.2.2.1 bt429.2.2.2.2.2).bind fun bt441 => ((spec_DrawTurnRatio.f l1).bind fun bt445 => ((impl_TurnRatio.f bt445.1 bt445.2).bind fun bt448 => ((spec_TurnRatio.f bt445.1 bt445.2).bind fun bt452 => (if (bt421.2.2.2 != bt425.2.2.2) = true then (none) else (if bt421.1 = bt425.1 then (if bt421.2.1 = bt425.2.1 then (if bt421.2.2.1 = bt425.2.2.1 then (if (bt437.2.2.2 != bt441.2.2.2) = true then (none) else (if bt437.1 = bt441.1 then (if bt437.2.1 = bt441.2.1 then (if bt437.2.2.1 = bt441.2.2.1 then (if (bt448.2.2 != bt452.2.2) = true then (none) else (if (!(bt448.1 == bt452.1) || (!(bt448.2.1 == bt452.2.1))) = true then (none) else ((impl_IsRatio.f bt445.1 bt445.2).bind fun t456 => (if (bt448.2.2 != t456) = true then (none) else ((impl_IsRatio.f bt445.1 bt445.2).bind fun t457 => ((spec_IsRatio.f bt445.1 bt445.2).bind fun t458 => (laws_FnRatiosFound.j5 kj81 t418 bt421.1 bt421.2.1 bt421.2.2.1 bt421.2.2.2 bt429.2.2.2.2.1 bt429.2.2.2.2.2 bt437.1 bt437.2.1 bt437.2.2.1 bt437.2.2.2 bt448.2.2 (t457 != t458) t414 t415 t416 t417 bt429.1 bt429.2.1 bt429.2.2.1 bt429.2.2.2.1 bt445.1 bt445.2 bt448.1 bt448.2.1))))))) else (none)) else (none)) else (none))) else (none)) else (none)) else (none))))))))))) = some r := H
             have A94 := Aside0.mk A940
             clear A940
             replace H := Option.bind_eq_some_iff.mp H
             obtain ⟨⟨t421, t422, t423, t424⟩, A950, H⟩ := H
             replace H : ((spec_AgesFromTwo.f kj81 t414 t415 t416 t417 t418).bind fun bt425 => ((spec_DrawAgesFromThen.f l1).bind fun bt429 => ((impl_AgesFromThen.f kj81 bt429.1 bt429.2.1 bt429.2.2.1 bt429.2.2.2.1 bt429.2.2.2.2.1 bt429.2.2.2.2.2).bind fun bt437 => ((spec_AgesFromThen.f kj81 bt429.1 bt429.2.1 bt429.2.2.1 bt429.2.2.2.1 bt429.2.2.2.2.1 bt429.2.2.2.2.2).bind fun bt441 => ((spec_DrawTurnRatio.f l1).bind fun bt445 => ((impl_TurnRatio.f bt445.1 bt445.2).bind fun bt448 => ((spec_TurnRatio.f bt445.1 bt445.2).bind fun bt452 => (if (t424 != bt425.2.2.2) = true then (none) else (if t421 = bt425.1 then (if t422 = bt425.2.1 then (if t423 = bt425.2.2.1 then (if (bt437.2.2.2 != bt441.2.2.2) = true then (none) else (if bt437.1 = bt441.1 then (if bt437.2.1 = bt441.2.1 then (if bt437.2.2.1 = bt441.2.2.1 then (if (bt448.2.2 != bt452.2.2) = true then (none) else (if (!(bt448.1 == bt452.1) || (!(bt448.2.1 == bt452.2.1))) = true then (none) else ((impl_IsRatio.f bt445.1 bt445.2).bind fun t456 => (if (bt448.2.2 != t456) = true then (none) else ((impl_IsRatio.f bt445.1 bt445.2).bind fun t457 => ((spec_IsRatio.f bt445.1 bt445.2).bind fun t458 => (laws_FnRatiosFound.j5 kj81 t418 t421 t422 t423 t424 bt429.2.2.2.2.1 bt429.2.2.2.2.2 bt437.1 bt437.2.1 bt437.2.2.1 bt437.2.2.2 bt448.2.2 (t457 != t458) t414 t415 t416 t417 bt429.1 bt429.2.1 bt429.2.2.1 bt429.2.2.2.1 bt445.1 bt445.2 bt448.1 bt448.2.1))))))) else (none)) else (none)) else (none))) else (none)) else (none)) else (none)))))))))) = some r := H
             have A95 := Aside0.mk A950
             clear A950
             replace H := Option.bind_eq_some_iff.mp H
             obtain ⟨⟨t425, t426, t427, t428⟩, A960, H⟩ := H
             replace H : ((spec_DrawAgesFromThen.f l1).bind fun bt429 => ((impl_AgesFromThen.f kj81 bt429.1 bt429.2.1 bt429.2.2.1 bt429.2.2.2.1 bt429.2.2.2.2.1 bt429.2.2.2.2.2).bind fun bt437 => ((spec_AgesFromThen.f kj81 bt429.1 bt429.2.1 bt429.2.2.1 bt429.2.2.2.1 bt429.2.2.2.2.1 bt429.2.2.2.2.2).bind fun bt441 => ((spec_DrawTurnRatio.f l1).bind fun bt445 => ((impl_TurnRatio.f bt445.1 bt445.2).bind fun bt448 => ((spec_TurnRatio.f bt445.1 bt445.2).bind fun bt452 => (if (t424 != t428) = true then (none) else (if t421 = t425 then (if t422 = t426 then (if t423 = t427 then (if (bt437.2.2.2 != bt441.2.2.2) = true then (none) else (if bt437.1 = bt441.1 then (if bt437.2.1 = bt441.2.1 then (if bt437.2.2.1 = bt441.2.2.1 then (if (bt448.2.2 != bt452.2.2) = true then (none) else (if (!(bt448.1 == bt452.1) || (!(bt448.2.1 == bt452.2.1))) = true then (none) else ((impl_IsRatio.f bt445.1 bt445.2).bind fun t456 => (if (bt448.2.2 != t456) = true then (none) else ((impl_IsRatio.f bt445.1 bt445.2).bind fun t457 => ((spec_IsRatio.f bt445.1 bt445.2).bind fun t458 => (laws_FnRatiosFound.j5 kj81 t418 t421 t422 t423 t424 bt429.2.2.2.2.1 bt429.2.2.2.2.2 bt437.1 bt437.2.1 bt437.2.2.1 bt437.2.2.2 bt448.2.2 (t457 != t458) t414 t415 t416 t417 bt429.1 bt429.2.1 bt429.2.2.1 bt429.2.2.2.1 bt445.1 bt445.2 bt448.1 bt448.2.1))))))) else (none)) else (none)) else (none))) else (none)) else (none)) else (none))))))))) = some r := H
             have A96 := Aside0.mk A960
             clear A960
             replace H := Option.bind_eq_some_iff.mp H
             obtain ⟨⟨t429, t430, t431, t432, t433, t434⟩, A970, H⟩ := H
             replace H : ((impl_AgesFromThen.f kj81 t429 t430 t431 t432 t433 t434).bind fun bt437 => ((spec_AgesFromThen.f kj81 t429 t430 t431 t432 t433 t434).bind fun bt441 => ((spec_DrawTurnRatio.f l1).bind fun bt445 => ((impl_TurnRatio.f bt445.1 bt445.2).bind fun bt448 => ((spec_TurnRatio.f bt445.1 bt445.2).bind fun bt452 => (if (t424 != t428) = true then (none) else (if t421 = t425 then (if t422 = t426 then (if t423 = t427 then (if (bt437.2.2.2 != bt441.2.2.2) = true then (none) else (if bt437.1 = bt441.1 then (if bt437.2.1 = bt441.2.1 then (if bt437.2.2.1 = bt441.2.2.1 then (if (bt448.2.2 != bt452.2.2) = true then (none) else (if (!(bt448.1 == bt452.1) || (!(bt448.2.1 == bt452.2.1))) = true then (none) else ((impl_IsRatio.f bt445.1 bt445.2).bind fun t456 => (if (bt448.2.2 != t456) = true then (none) else ((impl_IsRatio.f bt445.1 bt445.2).bind fun t457 => ((spec_IsRatio.f bt445.1 bt445.2).bind fun t458 => (laws_FnRatiosFound.j5 kj81 t418 t421 t422 t423 t424 t433 t434 bt437.1 bt437.2.1 bt437.2.2.1 bt437.2.2.2 bt448.2.2 (t457 != t458) t414 t415 t416 t417 t429 t430 t431 t432 bt445.1 bt445.2 bt448.1 bt448.2.1))))))) else (none)) else (none)) else (none))) else (none)) else (none)) else (none)))))))) = some r := H
             have A97 := Aside0.mk A970
             clear A970
             replace H := Option.bind_eq_some_iff.mp H
             obtain ⟨⟨t437, t438, t439, t440⟩, A980, H⟩ := H
             replace H : ((spec_AgesFromThen.f kj81 t429 t430 t431 t432 t433 t434).bind fun bt441 => ((spec_DrawTurnRatio.f l1).bind fun bt445 => ((impl_TurnRatio.f bt445.1 bt445.2).bind fun bt448 => ((spec_TurnRatio.f bt445.1 bt445.2).bind fun bt452 => (if (t424 != t428) = true then (none) else (if t421 = t425 then (if t422 = t426 then (if t423 = t427 then (if (t440 != bt441.2.2.2) = true then (none) else (if t437 = bt441.1 then (if t438 = bt441.2.1 then (if t439 = bt441.2.2.1 then (if (bt448.2.2 != bt452.2.2) = true then (none) else (if (!(bt448.1 == bt452.1) || (!(bt448.2.1 == bt452.2.1))) = true then (none) else ((impl_IsRatio.f bt445.1 bt445.2).bind fun t456 => (if (bt448.2.2 != t456) = true then (none) else ((impl_IsRatio.f bt445.1 bt445.2).bind fun t457 => ((spec_IsRatio.f bt445.1 bt445.2).bind fun t458 => (laws_FnRatiosFound.j5 kj81 t418 t421 t422 t423 t424 t433 t434 t437 t438 t439 t440 bt448.2.2 (t457 != t458) t414 t415 t416 t417 t429 t430 t431 t432 bt445.1 bt445.2 bt448.1 bt448.2.1))))))) else (none)) else (none)) else (none))) else (none)) else (none)) else (none))))))) = some r := H
             have A98 := Aside0.mk A980
             clear A980
             replace H := Option.bind_eq_some_iff.mp H
             obtain ⟨⟨t441, t442, t443, t444⟩, A990, H⟩ := H
             replace H : ((spec_DrawTurnRatio.f l1).bind fun bt445 => ((impl_TurnRatio.f bt445.1 bt445.2).bind fun bt448 => ((spec_TurnRatio.f bt445.1 bt445.2).bind fun bt452 => (if (t424 != t428) = true then (none) else (if t421 = t425 then (if t422 = t426 then (if t423 = t427 then (if (t440 != t444) = true then (none) else (if t437 = t441 then (if t438 = t442 then (if t439 = t443 then (if (bt448.2.2 != bt452.2.2) = true then (none) else (if (!(bt448.1 == bt452.1) || (!(bt448.2.1 == bt452.2.1))) = true then (none) else ((impl_IsRatio.f bt445.1 bt445.2).bind fun t456 => (if (bt448.2.2 != t456) = true then (none) else ((impl_IsRatio.f bt445.1 bt445.2).bind fun t457 => ((spec_IsRatio.f bt445.1 bt445.2).bind fun t458 => (laws_FnRatiosFound.j5 kj81 t418 t421 t422 t423 t424 t433 t434 t437 t438 t439 t440 bt448.2.2 (t457 != t458) t414 t415 t416 t417 t429 t430 t431 t432 bt445.1 bt445.2 bt448.1 bt448.2.1))))))) else (none)) else (none)) else (none))) else (none)) else (none)) else (none)))))) = some r := H
             have A99 := Aside0.mk A990
             clear A990
             replace H := Option.bind_eq_some_iff.mp H
             obtain ⟨⟨t445, t446⟩, A1000, H⟩ := H
             replace H : ((impl_TurnRatio.f t445 t446).bind fun bt448 => ((spec_TurnRatio.f t445 t446).bind fun bt452 => (if (t424 != t428) = true then (none) else (if t421 = t425 then (if t422 = t426 then (if t423 = t427 then (if (t440 != t444) = true then (none) else (if t437 = t441 then (if t438 = t442 then (if t439 = t443 then (if (bt448.2.2 != bt452.2.2) = true then (none) else (if (!(bt448.1 == bt452.1) || (!(bt448.2.1 == bt452.2.1))) = true then (none) else ((impl_IsRatio.f t445 t446).bind fun t456 => (if (bt448.2.2 != t456) = true then (none) else ((impl_IsRatio.f t445 t446).bind fun t457 => ((spec_IsRatio.f t445 t446).bind fun t458 => (laws_FnRatiosFound.j5 kj81 t418 t421 t422 t423 t424 t433 t434 t437 t438 t439 t440 bt448.2.2 (t457 != t458) t414 t415 t416 t417 t429 t430 t431 t432 t445 t446 bt448.1 bt448.2.1))))))) else (none)) else (none)) else (none))) else (none)) else (none)) else (none))))) = some r := H
             have A100 := Aside0.mk A1000
             clear A1000
             replace H := Option.bind_eq_some_iff.mp H
             obtain ⟨⟨t448, t449, t450⟩, A1010, H⟩ := H
             replace H : ((spec_TurnRatio.f t445 t446).bind fun bt452 => (if (t424 != t428) = true then (none) else (if t421 = t425 then (if t422 = t426 then (if t423 = t427 then (if (t440 != t444) = true then (none) else (if t437 = t441 then (if t438 = t442 then (if t439 = t443 then (if (t450 != bt452.2.2) = true then (none) else (if (!(t448 == bt452.1) || (!(t449 == bt452.2.1))) = true then (none) else ((impl_IsRatio.f t445 t446).bind fun t456 => (if (t450 != t456) = true then (none) else ((impl_IsRatio.f t445 t446).bind fun t457 => ((spec_IsRatio.f t445 t446).bind fun t458 => (laws_FnRatiosFound.j5 kj81 t418 t421 t422 t423 t424 t433 t434 t437 t438 t439 t440 t450 (t457 != t458) t414 t415 t416 t417 t429 t430 t431 t432 t445 t446 t448 t449))))))) else (none)) else (none)) else (none))) else (none)) else (none)) else (none)))) = some r := H
             have A101 := Aside0.mk A1010
             clear A1010
             replace H := Option.bind_eq_some_iff.mp H
             obtain ⟨⟨t452, t453, t454⟩, A1020, H⟩ := H
             replace H : (if (t424 != t428) = true then (none) else (if t421 = t425 then (if t422 = t426 then (if t423 = t427 then (if (t440 != t444) = true then (none) else (if t437 = t441 then (if t438 = t442 then (if t439 = t443 then (if (t450 != t454) = true then (none) else (if (!(t448 == t452) || (!(t449 == t453))) = true then (none) else ((impl_IsRatio.f t445 t446).bind fun t456 => (if (t450 != t456) = true then (none) else ((impl_IsRatio.f t445 t446).bind fun t457 => ((spec_IsRatio.f t445 t446).bind fun t458 => (laws_FnRatiosFound.j5 kj81 t418 t421 t422 t423 t424 t433 t434 t437 t438 t439 t440 t450 (t457 != t458) t414 t415 t416 t417 t429 t430 t431 t432 t445 t446 t448 t449))))))) else (none)) else (none)) else (none))) else (none)) else (none)) else (none))) = some r := H
             have A102 := Aside0.mk A1020
             clear A1020
             have HC103 := Aside0.mk H
             clear H
             go_upto_region 34 with (first | ((with_reducible refine gate_callee (f := 40) rfl ?_); refine kE (some 342) Try.func40 #[.slice A1 l1.length c1] rfl ?_; (with_reducible refine (spec_DrawAgesFromTwo.calls _ _ l1 t414 t415 t416 t417 t418 _ ?side1 ?side2 A94.out).mono ?_); (case side1 => repeat (first | exact (Kd.C_below HR1.out HB.out) | (with_reducible refine Kd.C_alloc ?_ _) | (with_reducible refine Kd.C_drewN ?_ _) | (with_reducible refine Kd.C_drew ?_))); (case side2 => exact HC1.out); rintro e w104 ⟨rfl, hb⟩; refine ⟨_, rfl, ?_⟩; have n0_ := kB BK376 hb; have n1_ := kB BK390 hb; have n2_ := kB BK402 hb; have n3_ := kH HB hb; replace BK376 := n0_; replace BK390 := n1_; replace BK402 := n2_; replace HB := n3_; clear n0_ n1_ n2_ n3_; (try clear hb)) | ((with_reducible refine gate_dst (N := 38) rfl ?_); refine box_event ?hg (N := 38) ?hd (cs := #[.int .i64 0, .int .i64 0]) (t := 43) ?hr ?_; (case hd => rfl); (case hg => rfl); (case hr => first | (go_simp; done) | (go_simp; rfl)); intro gb419 hg w105 hbox hb; have n0_ := kB BK376 hb; have n1_ := kB BK390 hb; have n2_ := kB BK402 hb; have n3_ := kH HB hb; have n4_ := Aside0.mk (hbox); have n5_ := kG HB hg; have n6_ := kG HB hg; have n7_ := kL BK376 hg; have n8_ := kR BK376 hg; have n9_ := kL BK390 hg; have n10_ := kR BK390 hg; have n11_ := kL BK402 hg; have n12_ := kR BK402 hg; replace BK376 := n0_; replace BK390 := n1_; replace BK402 := n2_; replace HB := n3_; have BK419 := n4_; have GW419 := n5_; have GE419 := n6_; have NB376_419 := n7_; have NB419_376 := n8_; have NB390_419 := n9_; have NB419_390 := n10_; have NB402_419 := n11_; have NB419_402 := n12_; clear n0_ n1_ n2_ n3_ n4_ n5_ n6_ n7_ n8_ n9_ n10_ n11_ n12_; clear hb hbox hg) | ((with_reducible refine gate_dst (N := 39) rfl ?_); refine box_event ?hg (N := 39) ?hd (cs := #[.int .i64 0, .int .i64 0]) (t := 43) ?hr ?_; (case hd => rfl); (case hg => rfl); (case hr => first | (go_simp; done) | (go_simp; rfl)); intro gb420 hg w106 hbox hb; have n0_ := kB BK376 hb; have n1_ := kB BK390 hb; have n2_ := kB BK402 hb; have n3_ := kB BK419 hb; have n4_ := kH HB hb; have n5_ := Aside0.mk (hbox); have n6_ := kG HB hg; have n7_ := kG HB hg; have n8_ := kL BK376 hg; have n9_ := kR BK376 hg; have n10_ := kL BK390 hg; have n11_ := kR BK390 hg; have n12_ := kL BK402 hg; have n13_ := kR BK402 hg; have n14_ := kL BK419 hg; have n15_ := kR BK419 hg; replace BK376 := n0_; replace BK390 := n1_; replace BK402 := n2_; replace BK419 := n3_; replace HB := n4_; have BK420 := n5_; have GW420 := n6_; have GE420 := n7_; have NB376_420 := n8_; have NB420_376 := n9_; have NB390_420 := n10_; have NB420_390 := n11_; have NB402_420 := n12_; have NB420_402 := n13_; have NB419_420 := n14_; have NB420_419 := n15_; clear n0_ n1_ n2_ n3_ n4_ n5_ n6_ n7_ n8_ n9_ n10_ n11_ n12_ n13_ n14_ n15_; clear hb hbox hg; have hnb107 := NB419_376.out; have hnc107 := NB376_419.out; have hnb108 := NB419_390.out; have hnc108 := NB390_419.out; have hnb109 := NB419_402.out; have hnc109 := NB402_419.out; have hnb110 := NB419_420.out; have hnc110 := NB420_419.out; have hcz111_0 : w106.cell? ⟨gb419, 0, none⟩ = some (.int .i64 0) := (blk_cell BK419.out 0).trans rfl; have hcz111_1 : w106.cell? ⟨gb419, 1, none⟩ = some (.int .i64 0) := (blk_cell BK419.out 1).trans rfl; have hfz111_0 := blk_frozen BK419.out 0; have hfz111_1 := blk_frozen BK419.out 1; have hnb112 := NB420_376.out; have hnc112 := NB376_420.out; have hnb113 := NB420_390.out; have hnc113 := NB390_420.out; have hnb114 := NB420_402.out; have hnc114 := NB402_420.out; have hcz115_0 : w106.cell? ⟨gb420, 0, none⟩ = some (.int .i64 0) := (blk_cell BK420.out 0).trans rfl; have hcz115_1 : w106.cell? ⟨gb420, 1, none⟩ = some (.int .i64 0) := (blk_cell BK420.out 1).trans rfl; have hfz115_0 := blk_frozen BK420.out 0; have hfz115_1 := blk_frozen BK420.out 1) | ((with_reducible refine gate_callee (f := 41) rfl ?_); refine kE (some 350) Try.func41 #[.agg #[.int .i64 t414, .int .i64 t415], .agg #[.int .i64 t416, .int .i64 t417], .int .i64 t418] rfl ?_; (with_reducible refine (impl_AgesFromTwo.calls kj81 t414 t415 t416 t417 t418 t421 t422 t423 t424 _ A95.out).mono ?_); rintro e w116 ⟨rfl, hb⟩; refine ⟨_, rfl, ?_⟩; have n0_ := kB BK376 hb; have n1_ := kB BK390 hb; have n2_ := kB BK402 hb; have n3_ := Aside0.mk (blk_below (g := gb419) (o := .cells #[.int .i64 t414, .int .i64 t415] 43 (0, 0)) (by (with_reducible repeat (first | refine blk_drewN ?_ _ | refine blk_drew ?_ | refine blk_alloc ?_ _)); refine blk_far ?_ NB419_420.out _; (with_reducible repeat (first | refine blk_drewN ?_ _ | refine blk_drew ?_ | refine blk_alloc ?_ _)); refine blk_far ?_ NB419_420.out _; (with_reducible repeat (first | refine blk_drewN ?_ _ | refine blk_drew ?_ | refine blk_alloc ?_ _)); refine blk_put (cs := #[.int .i64 t414, .int .i64 0]) ?_ 1 _ rfl; (with_reducible repeat (first | refine blk_drewN ?_ _ | refine blk_drew ?_ | refine blk_alloc ?_ _)); refine blk_put (cs := #[.int .i64 0, .int .i64 0]) ?_ 0 _ rfl; (with_reducible repeat (first | refine blk_drewN ?_ _ | refine blk_drew ?_ | refine blk_alloc ?_ _)); exact BK419.out) hb); have n4_ := Aside0.mk (blk_below (g := gb420) (o := .cells #[.int .i64 t416, .int .i64 t417] 43 (0, 0)) (by (with_reducible repeat (first | refine blk_drewN ?_ _ | refine blk_drew ?_ | refine blk_alloc ?_ _)); refine blk_put (cs := #[.int .i64 t416, .int .i64 0]) ?_ 1 _ rfl; (with_reducible repeat (first | refine blk_drewN ?_ _ | refine blk_drew ?_ | refine blk_alloc ?_ _)); refine blk_put (cs := #[.int .i64 0, .int .i64 0]) ?_ 0 _ rfl; (with_reducible repeat (first | refine blk_drewN ?_ _ | refine blk_drew ?_ | refine blk_alloc ?_ _)); refine blk_far ?_ NB420_419.out _; (with_reducible repeat (first | refine blk_drewN ?_ _ | refine blk_drew ?_ | refine blk_alloc ?_ _)); refine blk_far ?_ NB420_419.out _; (with_reducible repeat (first | refine blk_drewN ?_ _ | refine blk_drew ?_ | refine blk_alloc ?_ _)); exact BK420.out) hb); have n5_ := kH HB hb; replace BK376 := n0_; replace BK390 := n1_; replace BK402 := n2_; replace BK419 := n3_; replace BK420 := n4_; replace HB := n5_; clear n0_ n1_ n2_ n3_ n4_ n5_; (try clear hb); have hcz117_0 : w116.cell? ⟨gb419, 0, none⟩ = some (.int .i64 t414) := (blk_cell BK419.out 0).trans rfl; have hcz117_1 : w116.cell? ⟨gb419, 1, none⟩ = some (.int .i64 t415) := (blk_cell BK419.out 1).trans rfl; have hfz117_0 := blk_frozen BK419.out 0; have hfz117_1 := blk_frozen BK419.out 1; have hcz118_0 : w116.cell? ⟨gb420, 0, none⟩ = some (.int .i64 t416) := (blk_cell BK420.out 0).trans rfl; have hcz118_1 : w116.cell? ⟨gb420, 1, none⟩ = some (.int .i64 t417) := (blk_cell BK420.out 1).trans rfl; have hfz118_0 := blk_frozen BK420.out 0; have hfz118_1 := blk_frozen BK420.out 1) | ((with_reducible refine gate_callee (f := 42) rfl ?_); refine kE (some 359) Try.func42 #[.agg #[.int .i64 t414, .int .i64 t415], .agg #[.int .i64 t416, .int .i64 t417], .int .i64 t418] rfl ?_; (with_reducible refine (spec_AgesFromTwo.calls kj81 t414 t415 t416 t417 t418 t425 t426 t427 t428 _ A96.out).mono ?_); rintro e w119 ⟨rfl, hb⟩; refine ⟨_, rfl, ?_⟩; have n0_ := kB BK376 hb; have n1_ := kB BK390 hb; have n2_ := kB BK402 hb; have n3_ := kB BK419 hb; have n4_ := kB BK420 hb; have n5_ := kH HB hb; replace BK376 := n0_; replace BK390 := n1_; replace BK402 := n2_; replace BK419 := n3_; replace BK420 := n4_; replace HB := n5_; clear n0_ n1_ n2_ n3_ n4_ n5_; (try clear hb)) | ((with_reducible refine gate_callee (f := 43) rfl ?_); refine kE (some 366) Try.func43 #[.slice A1 l1.length c1] rfl ?_; (with_reducible refine (spec_DrawAgesFromThen.calls _ _ l1 t429 t430 t431 t432 t433 t434 _ ?side1 ?side2 A97.out).mono ?_); (case side1 => repeat (first | exact (Kd.C_below HR1.out HB.out) | (with_reducible refine Kd.C_alloc ?_ _) | (with_reducible refine Kd.C_drewN ?_ _) | (with_reducible refine Kd.C_drew ?_))); (case side2 => exact HC1.out); rintro e w120 ⟨rfl, hb⟩; refine ⟨_, rfl, ?_⟩; have n0_ := kB BK376 hb; have n1_ := kB BK390 hb; have n2_ := kB BK402 hb; have n3_ := kB BK419 hb; have n4_ := kB BK420 hb; have n5_ := kH HB hb; replace BK376 := n0_; replace BK390 := n1_; replace BK402 := n2_; replace BK419 := n3_; replace BK420 := n4_; replace HB := n5_; clear n0_ n1_ n2_ n3_ n4_ n5_; (try clear hb)) | ((with_reducible refine gate_dst (N := 46) rfl ?_); refine box_event ?hg (N := 46) ?hd (cs := #[.int .i64 0, .int .i64 0]) (t := 43) ?hr ?_; (case hd => rfl); (case hg => rfl); (case hr => first | (go_simp; done) | (go_simp; rfl)); intro gb435 hg w121 hbox hb; have n0_ := kB BK376 hb; have n1_ := kB BK390 hb; have n2_ := kB BK402 hb; have n3_ := kB BK419 hb; have n4_ := kB BK420 hb; have n5_ := kH HB hb; have n6_ := Aside0.mk (hbox); have n7_ := kG HB hg; have n8_ := kG HB hg; have n9_ := kL BK376 hg; have n10_ := kR BK376 hg; have n11_ := kL BK390 hg; have n12_ := kR BK390 hg; have n13_ := kL BK402 hg; have n14_ := kR BK402 hg; have n15_ := kL BK419 hg; have n16_ := kR BK419 hg; have n17_ := kL BK420 hg; have n18_ := kR BK420 hg; replace BK376 := n0_; replace BK390 := n1_; replace BK402 := n2_; replace BK419 := n3_; replace BK420 := n4_; replace HB := n5_; have BK435 := n6_; have GW435 := n7_; have GE435 := n8_; have NB376_435 := n9_; have NB435_376 := n10_; have NB390_435 := n11_; have NB435_390 := n12_; have NB402_435 := n13_; have NB435_402 := n14_; have NB419_435 := n15_; have NB435_419 := n16_; have NB420_435 := n17_; have NB435_420 := n18_; clear n0_ n1_ n2_ n3_ n4_ n5_ n6_ n7_ n8_ n9_ n10_ n11_ n12_ n13_ n14_ n15_ n16_ n17_ n18_; clear hb hbox hg) | ((with_reducible refine gate_dst (N := 47) rfl ?_); refine box_event ?hg (N := 47) ?hd (cs := #[.int .i64 0, .int .i64 0]) (t := 43) ?hr ?_; (case hd => rfl); (case hg => rfl); (case hr => first | (go_simp; done) | (go_simp; rfl)); intro gb436 hg w122 hbox hb; have n0_ := kB BK376 hb; have n1_ := kB BK390 hb; have n2_ := kB BK402 hb; have n3_ := kB BK419 hb; have n4_ := kB BK420 hb; have n5_ := kB BK435 hb; have n6_ := kH HB hb; have n7_ := Aside0.mk (hbox); have n8_ := kG HB hg; have n9_ := kG HB hg; have n10_ := kL BK376 hg; have n11_ := kR BK376 hg; have n12_ := kL BK390 hg; have n13_ := kR BK390 hg; have n14_ := kL BK402 hg; have n15_ := kR BK402 hg; have n16_ := kL BK419 hg; have n17_ := kR BK419 hg; have n18_ := kL BK420 hg; have n19_ := kR BK420 hg; have n20_ := kL BK435 hg; have n21_ := kR BK435 hg; replace BK376 := n0_; replace BK390 := n1_; replace BK402 := n2_; replace BK419 := n3_; replace BK420 := n4_; replace BK435 := n5_; replace HB := n6_; have BK436 := n7_; have GW436 := n8_; have GE436 := n9_; have NB376_436 := n10_; have NB436_376 := n11_; have NB390_436 := n12_; have NB436_390 := n13_; have NB402_436 := n14_; have NB436_402 := n15_; have NB419_436 := n16_; have NB436_419 := n17_; have NB420_436 := n18_; have NB436_420 := n19_; have NB435_436 := n20_; have NB436_435 := n21_; clear n0_ n1_ n2_ n3_ n4_ n5_ n6_ n7_ n8_ n9_ n10_ n11_ n12_ n13_ n14_ n15_ n16_ n17_ n18_ n19_ n20_ n21_; clear hb hbox hg; have hnb123 := NB435_376.out; have hnc123 := NB376_435.out; have hnb124 := NB435_390.out; have hnc124 := NB390_435.out; have hnb125 := NB435_402.out; have hnc125 := NB402_435.out; have hnb126 := NB435_419.out; have hnc126 := NB419_435.out; have hnb127 := NB435_420.out; have hnc127 := NB420_435.out; have hnb128 := NB435_436.out; have hnc128 := NB436_435.out; have hcz129_0 : w122.cell? ⟨gb435, 0, none⟩ = some (.int .i64 0) := (blk_cell BK435.out 0).trans rfl; have hcz129_1 : w122.cell? ⟨gb435, 1, none⟩ = some (.int .i64 0) := (blk_cell BK435.out 1).trans rfl; have hfz129_0 := blk_frozen BK435.out 0; have hfz129_1 := blk_frozen BK435.out 1; have hnb130 := NB436_376.out; have hnc130 := NB376_436.out; have hnb131 := NB436_390.out; have hnc131 := NB390_436.out; have hnb132 := NB436_402.out; have hnc132 := NB402_436.out; have hnb133 := NB436_419.out; have hnc133 := NB419_436.out; have hnb134 := NB436_420.out; have hnc134 := NB420_436.out; have hcz135_0 : w122.cell? ⟨gb436, 0, none⟩ = some (.int .i64 0) := (blk_cell BK436.out 0).trans rfl; have hcz135_1 : w122.cell? ⟨gb436, 1, none⟩ = some (.int .i64 0) := (blk_cell BK436.out 1).trans rfl; have hfz135_0 := blk_frozen BK436.out 0; have hfz135_1 := blk_frozen BK436.out 1) | ((with_reducible refine gate_callee (f := 44) rfl ?_); refine kE (some 376) Try.func44 #[.agg #[.int .i64 t429, .int .i64 t430], .agg #[.int .i64 t431, .int .i64 t432], .int .i64 t433, .int .i64 t434] rfl ?_; (with_reducible refine (impl_AgesFromThen.calls kj81 t429 t430 t431 t432 t433 t434 t437 t438 t439 t440 _ A98.out).mono ?_); rintro e w136 ⟨rfl, hb⟩; refine ⟨_, rfl, ?_⟩; have n0_ := kB BK376 hb; have n1_ := kB BK390 hb; have n2_ := kB BK402 hb; have n3_ := kB BK419 hb; have n4_ := kB BK420 hb; have n5_ := Aside0.mk (blk_below (g := gb435) (o := .cells #[.int .i64 t429, .int .i64 t430] 43 (0, 0)) (by (with_reducible repeat (first | refine blk_drewN ?_ _ | refine blk_drew ?_ | refine blk_alloc ?_ _)); refine blk_far ?_ NB435_436.out _; (with_reducible repeat (first | refine blk_drewN ?_ _ | refine blk_drew ?_ | refine blk_alloc ?_ _)); refine blk_far ?_ NB435_436.out _; (with_reducible repeat (first | refine blk_drewN ?_ _ | refine blk_drew ?_ | refine blk_alloc ?_ _)); refine blk_put (cs := #[.int .i64 t429, .int .i64 0]) ?_ 1 _ rfl; (with_reducible repeat (first | refine blk_drewN ?_ _ | refine blk_drew ?_ | refine blk_alloc ?_ _)); refine blk_put (cs := #[.int .i64 0, .int .i64 0]) ?_ 0 _ rfl; (with_reducible repeat (first | refine blk_drewN ?_ _ | refine blk_drew ?_ | refine blk_alloc ?_ _)); exact BK435.out) hb); have n6_ := Aside0.mk (blk_below (g := gb436) (o := .cells #[.int .i64 t431, .int .i64 t432] 43 (0, 0)) (by (with_reducible repeat (first | refine blk_drewN ?_ _ | refine blk_drew ?_ | refine blk_alloc ?_ _)); refine blk_put (cs := #[.int .i64 t431, .int .i64 0]) ?_ 1 _ rfl; (with_reducible repeat (first | refine blk_drewN ?_ _ | refine blk_drew ?_ | refine blk_alloc ?_ _)); refine blk_put (cs := #[.int .i64 0, .int .i64 0]) ?_ 0 _ rfl; (with_reducible repeat (first | refine blk_drewN ?_ _ | refine blk_drew ?_ | refine blk_alloc ?_ _)); refine blk_far ?_ NB436_435.out _; (with_reducible repeat (first | refine blk_drewN ?_ _ | refine blk_drew ?_ | refine blk_alloc ?_ _)); refine blk_far ?_ NB436_435.out _; (with_reducible repeat (first | refine blk_drewN ?_ _ | refine blk_drew ?_ | refine blk_alloc ?_ _)); exact BK436.out) hb); have n7_ := kH HB hb; replace BK376 := n0_; replace BK390 := n1_; replace BK402 := n2_; replace BK419 := n3_; replace BK420 := n4_; replace BK435 := n5_; replace BK436 := n6_; replace HB := n7_; clear n0_ n1_ n2_ n3_ n4_ n5_ n6_ n7_; (try clear hb); have hcz137_0 : w136.cell? ⟨gb435, 0, none⟩ = some (.int .i64 t429) := (blk_cell BK435.out 0).trans rfl; have hcz137_1 : w136.cell? ⟨gb435, 1, none⟩ = some (.int .i64 t430) := (blk_cell BK435.out 1).trans rfl; have hfz137_0 := blk_frozen BK435.out 0; have hfz137_1 := blk_frozen BK435.out 1; have hcz138_0 : w136.cell? ⟨gb436, 0, none⟩ = some (.int .i64 t431) := (blk_cell BK436.out 0).trans rfl; have hcz138_1 : w136.cell? ⟨gb436, 1, none⟩ = some (.int .i64 t432) := (blk_cell BK436.out 1).trans rfl; have hfz138_0 := blk_frozen BK436.out 0; have hfz138_1 := blk_frozen BK436.out 1) | ((with_reducible refine gate_callee (f := 45) rfl ?_); refine kE (some 386) Try.func45 #[.agg #[.int .i64 t429, .int .i64 t430], .agg #[.int .i64 t431, .int .i64 t432], .int .i64 t433, .int .i64 t434] rfl ?_; (with_reducible refine (spec_AgesFromThen.calls kj81 t429 t430 t431 t432 t433 t434 t441 t442 t443 t444 _ A99.out).mono ?_); rintro e w139 ⟨rfl, hb⟩; refine ⟨_, rfl, ?_⟩; have n0_ := kB BK376 hb; have n1_ := kB BK390 hb; have n2_ := kB BK402 hb; have n3_ := kB BK419 hb; have n4_ := kB BK420 hb; have n5_ := kB BK435 hb; have n6_ := kB BK436 hb; have n7_ := kH HB hb; replace BK376 := n0_; replace BK390 := n1_; replace BK402 := n2_; replace BK419 := n3_; replace BK420 := n4_; replace BK435 := n5_; replace BK436 := n6_; replace HB := n7_; clear n0_ n1_ n2_ n3_ n4_ n5_ n6_ n7_; (try clear hb)) | ((with_reducible refine gate_callee (f := 46) rfl ?_); refine kE (some 392) Try.func46 #[.slice A1 l1.length c1] rfl ?_; (with_reducible refine (spec_DrawTurnRatio.calls _ _ l1 t445 t446 _ ?side1 ?side2 A100.out).mono ?_); (case side1 => repeat (first | exact (Kd.C_below HR1.out HB.out) | (with_reducible refine Kd.C_alloc ?_ _) | (with_reducible refine Kd.C_drewN ?_ _) | (with_reducible refine Kd.C_drew ?_))); (case side2 => exact HC1.out); rintro e w140 ⟨rfl, hb⟩; refine ⟨_, rfl, ?_⟩; have n0_ := kB BK376 hb; have n1_ := kB BK390 hb; have n2_ := kB BK402 hb; have n3_ := kB BK419 hb; have n4_ := kB BK420 hb; have n5_ := kB BK435 hb; have n6_ := kB BK436 hb; have n7_ := kH HB hb; replace BK376 := n0_; replace BK390 := n1_; replace BK402 := n2_; replace BK419 := n3_; replace BK420 := n4_; replace BK435 := n5_; replace BK436 := n6_; replace HB := n7_; clear n0_ n1_ n2_ n3_ n4_ n5_ n6_ n7_; (try clear hb)) | ((with_reducible refine gate_dst (N := 55) rfl ?_); refine box_event ?hg (N := 55) ?hd (cs := #[.int .i64 0, .int .i64 0]) (t := 43) ?hr ?_; (case hd => rfl); (case hg => rfl); (case hr => first | (go_simp; done) | (go_simp; rfl)); intro gb447 hg w141 hbox hb; have n0_ := kB BK376 hb; have n1_ := kB BK390 hb; have n2_ := kB BK402 hb; have n3_ := kB BK419 hb; have n4_ := kB BK420 hb; have n5_ := kB BK435 hb; have n6_ := kB BK436 hb; have n7_ := kH HB hb; have n8_ := Aside0.mk (hbox); have n9_ := kG HB hg; have n10_ := kG HB hg; have n11_ := kL BK376 hg; have n12_ := kR BK376 hg; have n13_ := kL BK390 hg; have n14_ := kR BK390 hg; have n15_ := kL BK402 hg; have n16_ := kR BK402 hg; have n17_ := kL BK419 hg; have n18_ := kR BK419 hg; have n19_ := kL BK420 hg; have n20_ := kR BK420 hg; have n21_ := kL BK435 hg; have n22_ := kR BK435 hg; have n23_ := kL BK436 hg; have n24_ := kR BK436 hg; replace BK376 := n0_; replace BK390 := n1_; replace BK402 := n2_; replace BK419 := n3_; replace BK420 := n4_; replace BK435 := n5_; replace BK436 := n6_; replace HB := n7_; have BK447 := n8_; have GW447 := n9_; have GE447 := n10_; have NB376_447 := n11_; have NB447_376 := n12_; have NB390_447 := n13_; have NB447_390 := n14_; have NB402_447 := n15_; have NB447_402 := n16_; have NB419_447 := n17_; have NB447_419 := n18_; have NB420_447 := n19_; have NB447_420 := n20_; have NB435_447 := n21_; have NB447_435 := n22_; have NB436_447 := n23_; have NB447_436 := n24_; clear n0_ n1_ n2_ n3_ n4_ n5_ n6_ n7_ n8_ n9_ n10_ n11_ n12_ n13_ n14_ n15_ n16_ n17_ n18_ n19_ n20_ n21_ n22_ n23_ n24_; clear hb hbox hg; have hnb142 := NB447_376.out; have hnc142 := NB376_447.out; have hnb143 := NB447_390.out; have hnc143 := NB390_447.out; have hnb144 := NB447_402.out; have hnc144 := NB402_447.out; have hnb145 := NB447_419.out; have hnc145 := NB419_447.out; have hnb146 := NB447_420.out; have hnc146 := NB420_447.out; have hnb147 := NB447_435.out; have hnc147 := NB435_447.out; have hnb148 := NB447_436.out; have hnc148 := NB436_447.out; have hcz149_0 : w141.cell? ⟨gb447, 0, none⟩ = some (.int .i64 0) := (blk_cell BK447.out 0).trans rfl; have hcz149_1 : w141.cell? ⟨gb447, 1, none⟩ = some (.int .i64 0) := (blk_cell BK447.out 1).trans rfl; have hfz149_0 := blk_frozen BK447.out 0; have hfz149_1 := blk_frozen BK447.out 1) | ((with_reducible refine gate_callee (f := 47) rfl ?_); refine kE (some 395) Try.func47 #[.agg #[.int .i64 t445, .int .i64 t446]] rfl ?_; (with_reducible refine (impl_TurnRatio.calls t445 t446 t448 t449 t450 _ A101.out).mono ?_); rintro e w150 ⟨rfl, hb⟩; refine ⟨_, rfl, ?_⟩; have n0_ := kB BK376 hb; have n1_ := kB BK390 hb; have n2_ := kB BK402 hb; have n3_ := kB BK419 hb; have n4_ := kB BK420 hb; have n5_ := kB BK435 hb; have n6_ := kB BK436 hb; have n7_ := Aside0.mk (blk_below (g := gb447) (o := .cells #[.int .i64 t445, .int .i64 t446] 43 (0, 0)) (by (with_reducible repeat (first | refine blk_drewN ?_ _ | refine blk_drew ?_ | refine blk_alloc ?_ _)); refine blk_put (cs := #[.int .i64 t445, .int .i64 0]) ?_ 1 _ rfl; (with_reducible repeat (first | refine blk_drewN ?_ _ | refine blk_drew ?_ | refine blk_alloc ?_ _)); refine blk_put (cs := #[.int .i64 0, .int .i64 0]) ?_ 0 _ rfl; (with_reducible repeat (first | refine blk_drewN ?_ _ | refine blk_drew ?_ | refine blk_alloc ?_ _)); exact BK447.out) hb); have n8_ := kH HB hb; replace BK376 := n0_; replace BK390 := n1_; replace BK402 := n2_; replace BK419 := n3_; replace BK420 := n4_; replace BK435 := n5_; replace BK436 := n6_; replace BK447 := n7_; replace HB := n8_; clear n0_ n1_ n2_ n3_ n4_ n5_ n6_ n7_ n8_; (try clear hb)) | ((with_reducible refine gate_dst (N := 56) rfl ?_); refine box_event ?hg (N := 56) ?hd (cs := #[.int .i64 0, .int .i64 0]) (t := 43) ?hr ?_; (case hd => rfl); (case hg => rfl); (case hr => first | (go_simp; done) | (go_simp; rfl)); intro gb451 hg w151 hbox hb; have n0_ := kB BK376 hb; have n1_ := kB BK390 hb; have n2_ := kB BK402 hb; have n3_ := kB BK419 hb; have n4_ := kB BK420 hb; have n5_ := kB BK435 hb; have n6_ := kB BK436 hb; have n7_ := kB BK447 hb; have n8_ := kH HB hb; have n9_ := Aside0.mk (hbox); have n10_ := kG HB hg; have n11_ := kG HB hg; have n12_ := kL BK376 hg; have n13_ := kR BK376 hg; have n14_ := kL BK390 hg; have n15_ := kR BK390 hg; have n16_ := kL BK402 hg; have n17_ := kR BK402 hg; have n18_ := kL BK419 hg; have n19_ := kR BK419 hg; have n20_ := kL BK420 hg; have n21_ := kR BK420 hg; have n22_ := kL BK435 hg; have n23_ := kR BK435 hg; have n24_ := kL BK436 hg; have n25_ := kR BK436 hg; have n26_ := kL BK447 hg; have n27_ := kR BK447 hg; replace BK376 := n0_; replace BK390 := n1_; replace BK402 := n2_; replace BK419 := n3_; replace BK420 := n4_; replace BK435 := n5_; replace BK436 := n6_; replace BK447 := n7_; replace HB := n8_; have BK451 := n9_; have GW451 := n10_; have GE451 := n11_; have NB376_451 := n12_; have NB451_376 := n13_; have NB390_451 := n14_; have NB451_390 := n15_; have NB402_451 := n16_; have NB451_402 := n17_; have NB419_451 := n18_; have NB451_419 := n19_; have NB420_451 := n20_; have NB451_420 := n21_; have NB435_451 := n22_; have NB451_435 := n23_; have NB436_451 := n24_; have NB451_436 := n25_; have NB447_451 := n26_; have NB451_447 := n27_; clear n0_ n1_ n2_ n3_ n4_ n5_ n6_ n7_ n8_ n9_ n10_ n11_ n12_ n13_ n14_ n15_ n16_ n17_ n18_ n19_ n20_ n21_ n22_ n23_ n24_ n25_ n26_ n27_; clear hb hbox hg; have hnb152 := NB451_376.out; have hnc152 := NB376_451.out; have hnb153 := NB451_390.out; have hnc153 := NB390_451.out; have hnb154 := NB451_402.out; have hnc154 := NB402_451.out; have hnb155 := NB451_419.out; have hnc155 := NB419_451.out; have hnb156 := NB451_420.out; have hnc156 := NB420_451.out; have hnb157 := NB451_435.out; have hnc157 := NB435_451.out; have hnb158 := NB451_436.out; have hnc158 := NB436_451.out; have hnb159 := NB451_447.out; have hnc159 := NB447_451.out; have hcz160_0 : w151.cell? ⟨gb451, 0, none⟩ = some (.int .i64 0) := (blk_cell BK451.out 0).trans rfl; have hcz160_1 : w151.cell? ⟨gb451, 1, none⟩ = some (.int .i64 0) := (blk_cell BK451.out 1).trans rfl; have hfz160_0 := blk_frozen BK451.out 0; have hfz160_1 := blk_frozen BK451.out 1; have hcz161_0 : w151.cell? ⟨gb447, 0, none⟩ = some (.int .i64 t445) := (blk_cell BK447.out 0).trans rfl; have hcz161_1 : w151.cell? ⟨gb447, 1, none⟩ = some (.int .i64 t446) := (blk_cell BK447.out 1).trans rfl; have hfz161_0 := blk_frozen BK447.out 0; have hfz161_1 := blk_frozen BK447.out 1) | ((with_reducible refine gate_callee (f := 48) rfl ?_); refine kE (some 400) Try.func48 #[.agg #[.int .i64 t445, .int .i64 t446]] rfl ?_; (with_reducible refine (spec_TurnRatio.calls t445 t446 t452 t453 t454 _ A102.out).mono ?_); rintro e w162 ⟨rfl, hb⟩; refine ⟨_, rfl, ?_⟩; have n0_ := kB BK376 hb; have n1_ := kB BK390 hb; have n2_ := kB BK402 hb; have n3_ := kB BK419 hb; have n4_ := kB BK420 hb; have n5_ := kB BK435 hb; have n6_ := kB BK436 hb; have n7_ := kB BK447 hb; have n8_ := Aside0.mk (blk_below (g := gb451) (o := .cells #[.int .i64 t448, .int .i64 t449] 43 (0, 0)) (by (with_reducible repeat (first | refine blk_drewN ?_ _ | refine blk_drew ?_ | refine blk_alloc ?_ _)); refine blk_put (cs := #[.int .i64 t448, .int .i64 0]) ?_ 1 _ rfl; (with_reducible repeat (first | refine blk_drewN ?_ _ | refine blk_drew ?_ | refine blk_alloc ?_ _)); refine blk_put (cs := #[.int .i64 0, .int .i64 0]) ?_ 0 _ rfl; (with_reducible repeat (first | refine blk_drewN ?_ _ | refine blk_drew ?_ | refine blk_alloc ?_ _)); exact BK451.out) hb); have n9_ := kH HB hb; replace BK376 := n0_; replace BK390 := n1_; replace BK402 := n2_; replace BK419 := n3_; replace BK420 := n4_; replace BK435 := n5_; replace BK436 := n6_; replace BK447 := n7_; replace BK451 := n8_; replace HB := n9_; clear n0_ n1_ n2_ n3_ n4_ n5_ n6_ n7_ n8_ n9_; (try clear hb)) | ((with_reducible refine gate_dst (N := 58) rfl ?_); refine box_event ?hg (N := 58) ?hd (cs := #[.int .i64 0, .int .i64 0]) (t := 43) ?hr ?_; (case hd => rfl); (case hg => rfl); (case hr => first | (go_simp; done) | (go_simp; rfl)); intro gb455 hg w163 hbox hb; have n0_ := kB BK376 hb; have n1_ := kB BK390 hb; have n2_ := kB BK402 hb; have n3_ := kB BK419 hb; have n4_ := kB BK420 hb; have n5_ := kB BK435 hb; have n6_ := kB BK436 hb; have n7_ := kB BK447 hb; have n8_ := kB BK451 hb; have n9_ := kH HB hb; have n10_ := Aside0.mk (hbox); have n11_ := kG HB hg; have n12_ := kG HB hg; have n13_ := kL BK376 hg; have n14_ := kR BK376 hg; have n15_ := kL BK390 hg; have n16_ := kR BK390 hg; have n17_ := kL BK402 hg; have n18_ := kR BK402 hg; have n19_ := kL BK419 hg; have n20_ := kR BK419 hg; have n21_ := kL BK420 hg; have n22_ := kR BK420 hg; have n23_ := kL BK435 hg; have n24_ := kR BK435 hg; have n25_ := kL BK436 hg; have n26_ := kR BK436 hg; have n27_ := kL BK447 hg; have n28_ := kR BK447 hg; have n29_ := kL BK451 hg; have n30_ := kR BK451 hg; replace BK376 := n0_; replace BK390 := n1_; replace BK402 := n2_; replace BK419 := n3_; replace BK420 := n4_; replace BK435 := n5_; replace BK436 := n6_; replace BK447 := n7_; replace BK451 := n8_; replace HB := n9_; have BK455 := n10_; have GW455 := n11_; have GE455 := n12_; have NB376_455 := n13_; have NB455_376 := n14_; have NB390_455 := n15_; have NB455_390 := n16_; have NB402_455 := n17_; have NB455_402 := n18_; have NB419_455 := n19_; have NB455_419 := n20_; have NB420_455 := n21_; have NB455_420 := n22_; have NB435_455 := n23_; have NB455_435 := n24_; have NB436_455 := n25_; have NB455_436 := n26_; have NB447_455 := n27_; have NB455_447 := n28_; have NB451_455 := n29_; have NB455_451 := n30_; clear n0_ n1_ n2_ n3_ n4_ n5_ n6_ n7_ n8_ n9_ n10_ n11_ n12_ n13_ n14_ n15_ n16_ n17_ n18_ n19_ n20_ n21_ n22_ n23_ n24_ n25_ n26_ n27_ n28_ n29_ n30_; clear hb hbox hg; have hnb164 := NB455_376.out; have hnc164 := NB376_455.out; have hnb165 := NB455_390.out; have hnc165 := NB390_455.out; have hnb166 := NB455_402.out; have hnc166 := NB402_455.out; have hnb167 := NB455_419.out; have hnc167 := NB419_455.out; have hnb168 := NB455_420.out; have hnc168 := NB420_455.out; have hnb169 := NB455_435.out; have hnc169 := NB435_455.out; have hnb170 := NB455_436.out; have hnc170 := NB436_455.out; have hnb171 := NB455_447.out; have hnc171 := NB447_455.out; have hnb172 := NB455_451.out; have hnc172 := NB451_455.out; have hcz173_0 : w163.cell? ⟨gb455, 0, none⟩ = some (.int .i64 0) := (blk_cell BK455.out 0).trans rfl; have hcz173_1 : w163.cell? ⟨gb455, 1, none⟩ = some (.int .i64 0) := (blk_cell BK455.out 1).trans rfl; have hfz173_0 := blk_frozen BK455.out 0; have hfz173_1 := blk_frozen BK455.out 1))
             (try simp only [Act.put, List.setIfInBounds_toArray, List.set_cons_zero, List.set_cons_succ])
             go_cut [463] from 1 to 0 (fun v463 wc => ∃ (kq : Nat) (x463_102 : Bool), v463 = .bool x463_102 ∧ Aside0 (laws_FnRatiosFound.j5 kq t418 t421 t422 t423 t424 t433 t434 t437 t438 t439 t440 t450 x463_102 t414 t415 t416 t417 t429 t430 t431 t432 t445 t446 t448 t449 = some r) ∧ Aside0 (kq ≤ kj81) ∧ Aside0 (wc.heap[gb376]? = some (.cells #[.int .i64 t374, .int .i64 t375] 43 (0, 0))) ∧ Aside0 (wc.heap[gb390]? = some (.cells #[.int .i64 t388, .int .i64 t389] 43 (0, 0))) ∧ Aside0 (wc.heap[gb402]? = some (.cells #[.int .i64 t400, .int .i64 t401] 43 (0, 0))) ∧ Aside0 (wc.heap[gb419]? = some (.cells #[.int .i64 t414, .int .i64 t415] 43 (0, 0))) ∧ Aside0 (wc.heap[gb420]? = some (.cells #[.int .i64 t416, .int .i64 t417] 43 (0, 0))) ∧ Aside0 (wc.heap[gb435]? = some (.cells #[.int .i64 t429, .int .i64 t430] 43 (0, 0))) ∧ Aside0 (wc.heap[gb436]? = some (.cells #[.int .i64 t431, .int .i64 t432] 43 (0, 0))) ∧ Aside0 (wc.heap[gb447]? = some (.cells #[.int .i64 t445, .int .i64 t446] 43 (0, 0))) ∧ Aside0 (wc.heap[gb451]? = some (.cells #[.int .i64 t448, .int .i64 t449] 43 (0, 0))) ∧ Aside0 (wc.heap[gb455]? = some (.cells #[.int .i64 t452, .int .i64 t453] 43 (0, 0))) ∧ Aside0 (Below w.heap.size w wc))
             case first =>
              as_aux_lemma =>
               try simp only [List.append]
               have H := HC103.out
               clear HC103
               by_cases c174 : (t424 != t428) = true
               ·rw [if_pos c174] at H
                exact absurd H (by simp)
               ·rw [if_neg c174] at H
                have c174b0 : (t424 != t428) = false := by simpa using c174
                (try (have c174b1 : decide (t424 = t428) = true := by simpa using c174))
                (try (have c174b2 : (t424 == t428) = true := by simpa using c174))
                clear c174
                (first | rw [c174b0] | (simp only [i64_w, i32_w]; rw [c174b0]) | skip)
                by_cases c175 : t421 = t425
                ·rw [if_pos c175] at H
                 have c175b0 : (t421 == t425) = true := beq_iff_eq.mpr c175
                 have c175b1 : (t421 != t425) = false := bne_eq_false_iff_eq.mpr c175
                 clear c175
                 by_cases c176 : t422 = t426
                 ·rw [if_pos c176] at H
                  have c176b0 : (t422 == t426) = true := beq_iff_eq.mpr c176
                  have c176b1 : (t422 != t426) = false := bne_eq_false_iff_eq.mpr c176
                  clear c176
                  by_cases c177 : t423 = t427
                  ·rw [if_pos c177] at H
                   have c177b0 : (t423 == t427) = true := beq_iff_eq.mpr c177
                   have c177b1 : (t423 != t427) = false := bne_eq_false_iff_eq.mpr c177
                   clear c177
                   by_cases c178 : (t440 != t444) = true
                   ·rw [if_pos c178] at H
                    exact absurd H (by simp)
                   ·rw [if_neg c178] at H
                    have c178b0 : (t440 != t444) = false := by simpa using c178
                    (try (have c178b1 : decide (t440 = t444) = true := by simpa using c178))
                    (try (have c178b2 : (t440 == t444) = true := by simpa using c178))
                    clear c178
                    by_cases c179 : t437 = t441
                    ·rw [if_pos c179] at H
                     have c179b0 : (t437 == t441) = true := beq_iff_eq.mpr c179
                     have c179b1 : (t437 != t441) = false := bne_eq_false_iff_eq.mpr c179
                     clear c179
                     by_cases c180 : t438 = t442
                     ·rw [if_pos c180] at H
                      have c180b0 : (t438 == t442) = true := beq_iff_eq.mpr c180
                      have c180b1 : (t438 != t442) = false := bne_eq_false_iff_eq.mpr c180
                      clear c180
                      by_cases c181 : t439 = t443
                      ·rw [if_pos c181] at H
                       have c181b0 : (t439 == t443) = true := beq_iff_eq.mpr c181
                       have c181b1 : (t439 != t443) = false := bne_eq_false_iff_eq.mpr c181
                       clear c181
                       by_cases c182 : (t450 != t454) = true
                       ·rw [if_pos c182] at H
                        exact absurd H (by simp)
                       ·rw [if_neg c182] at H
                        have c182b0 : (t450 != t454) = false := by simpa using c182
                        (try (have c182b1 : decide (t450 = t454) = true := by simpa using c182))
                        (try (have c182b2 : (t450 == t454) = true := by simpa using c182))
                        clear c182
                        by_cases c183 : (!(t448 == t452) || (!(t449 == t453))) = true
                        ·rw [if_pos c183] at H
                         exact absurd H (by simp)
                        ·rw [if_neg c183] at H
                         have c183b0 : (!(t448 == t452) || (!(t449 == t453))) = false := by simpa using c183
                         clear c183
                         replace H := Option.bind_eq_some_iff.mp H
                         obtain ⟨t456, A1840, H⟩ := H
                         replace H : (if (t450 != t456) = true then (none) else ((impl_IsRatio.f t445 t446).bind fun t457 => ((spec_IsRatio.f t445 t446).bind fun t458 => (laws_FnRatiosFound.j5 kj81 t418 t421 t422 t423 t424 t433 t434 t437 t438 t439 t440 t450 (t457 != t458) t414 t415 t416 t417 t429 t430 t431 t432 t445 t446 t448 t449)))) = some r := H
                         have A184 := Aside0.mk A1840
                         clear A1840
                         by_cases c185 : (t450 != t456) = true
                         ·rw [if_pos c185] at H
                          exact absurd H (by simp)
                         ·rw [if_neg c185] at H
                          have c185b0 : (t450 != t456) = false := by simpa using c185
                          (try (have c185b1 : decide (t450 = t456) = true := by simpa using c185))
                          (try (have c185b2 : (t450 == t456) = true := by simpa using c185))
                          clear c185
                          replace H := Option.bind_eq_some_iff.mp H
                          obtain ⟨t457, A1860, H⟩ := H
                          replace H : ((spec_IsRatio.f t445 t446).bind fun t458 => (laws_FnRatiosFound.j5 kj81 t418 t421 t422 t423 t424 t433 t434 t437 t438 t439 t440 t450 (t457 != t458) t414 t415 t416 t417 t429 t430 t431 t432 t445 t446 t448 t449)) = some r := H
                          have A186 := Aside0.mk A1860
                          clear A1860
                          replace H := Option.bind_eq_some_iff.mp H
                          obtain ⟨t458, A1870, H⟩ := H
                          replace H : (laws_FnRatiosFound.j5 kj81 t418 t421 t422 t423 t424 t433 t434 t437 t438 t439 t440 t450 (t457 != t458) t414 t415 t416 t417 t429 t430 t431 t432 t445 t446 t448 t449) = some r := H
                          have A187 := Aside0.mk A1870
                          clear A1870
                          have H' := Aside0.mk H
                          clear H
                          try go_wp2
                          have n0_ : Aside0 (((w163.setCell ⟨gb455, 0, none⟩ (.int .i64 t452)).setCell ⟨gb455, 1, none⟩ (.int .i64 t453)).heap[gb376]? = some (.cells #[.int .i64 t374, .int .i64 t375] 43 (0, 0))) := kA
                          have n1_ : Aside0 (((w163.setCell ⟨gb455, 0, none⟩ (.int .i64 t452)).setCell ⟨gb455, 1, none⟩ (.int .i64 t453)).heap[gb390]? = some (.cells #[.int .i64 t388, .int .i64 t389] 43 (0, 0))) := kA
                          have n2_ : Aside0 (((w163.setCell ⟨gb455, 0, none⟩ (.int .i64 t452)).setCell ⟨gb455, 1, none⟩ (.int .i64 t453)).heap[gb402]? = some (.cells #[.int .i64 t400, .int .i64 t401] 43 (0, 0))) := kA
                          have n3_ : Aside0 (((w163.setCell ⟨gb455, 0, none⟩ (.int .i64 t452)).setCell ⟨gb455, 1, none⟩ (.int .i64 t453)).heap[gb419]? = some (.cells #[.int .i64 t414, .int .i64 t415] 43 (0, 0))) := kA
                          have n4_ : Aside0 (((w163.setCell ⟨gb455, 0, none⟩ (.int .i64 t452)).setCell ⟨gb455, 1, none⟩ (.int .i64 t453)).heap[gb420]? = some (.cells #[.int .i64 t416, .int .i64 t417] 43 (0, 0))) := kA
                          have n5_ : Aside0 (((w163.setCell ⟨gb455, 0, none⟩ (.int .i64 t452)).setCell ⟨gb455, 1, none⟩ (.int .i64 t453)).heap[gb435]? = some (.cells #[.int .i64 t429, .int .i64 t430] 43 (0, 0))) := kA
                          have n6_ : Aside0 (((w163.setCell ⟨gb455, 0, none⟩ (.int .i64 t452)).setCell ⟨gb455, 1, none⟩ (.int .i64 t453)).heap[gb436]? = some (.cells #[.int .i64 t431, .int .i64 t432] 43 (0, 0))) := kA
                          have n7_ : Aside0 (((w163.setCell ⟨gb455, 0, none⟩ (.int .i64 t452)).setCell ⟨gb455, 1, none⟩ (.int .i64 t453)).heap[gb447]? = some (.cells #[.int .i64 t445, .int .i64 t446] 43 (0, 0))) := kA
                          have n8_ : Aside0 (((w163.setCell ⟨gb455, 0, none⟩ (.int .i64 t452)).setCell ⟨gb455, 1, none⟩ (.int .i64 t453)).heap[gb451]? = some (.cells #[.int .i64 t448, .int .i64 t449] 43 (0, 0))) := kA
                          have n9_ : Aside0 (((w163.setCell ⟨gb455, 0, none⟩ (.int .i64 t452)).setCell ⟨gb455, 1, none⟩ (.int .i64 t453)).heap[gb455]? = some (.cells #[.int .i64 t452, .int .i64 t453] 43 (0, 0))) := ⟨by (with_reducible repeat (first | refine blk_drewN ?_ _ | refine blk_drew ?_ | refine blk_alloc ?_ _)); refine blk_put (cs := #[.int .i64 t452, .int .i64 0]) ?_ 1 _ rfl; (with_reducible repeat (first | refine blk_drewN ?_ _ | refine blk_drew ?_ | refine blk_alloc ?_ _)); refine blk_put (cs := #[.int .i64 0, .int .i64 0]) ?_ 0 _ rfl; (with_reducible repeat (first | refine blk_drewN ?_ _ | refine blk_drew ?_ | refine blk_alloc ?_ _)); exact BK455.out⟩
                          have n10_ : Aside0 (Below w.heap.size w ((w163.setCell ⟨gb455, 0, none⟩ (.int .i64 t452)).setCell ⟨gb455, 1, none⟩ (.int .i64 t453))) := kI
                          (try clear HB)
                          generalize ((w163.setCell ⟨gb455, 0, none⟩ (.int .i64 t452)).setCell ⟨gb455, 1, none⟩ (.int .i64 t453)) = w188 at n0_ n1_ n2_ n3_ n4_ n5_ n6_ n7_ n8_ n9_ n10_ ⊢
                          have BK376 := n0_
                          have BK390 := n1_
                          have BK402 := n2_
                          have BK419 := n3_
                          have BK420 := n4_
                          have BK435 := n5_
                          have BK436 := n6_
                          have BK447 := n7_
                          have BK451 := n8_
                          have BK455 := n9_
                          have HB := n10_
                          clear n0_ n1_ n2_ n3_ n4_ n5_ n6_ n7_ n8_ n9_ n10_
                          have n0_ := Aside0.mk (blk_drew BK376.out)
                          have n1_ := Aside0.mk (blk_drew BK390.out)
                          have n2_ := Aside0.mk (blk_drew BK402.out)
                          have n3_ := Aside0.mk (blk_drew BK419.out)
                          have n4_ := Aside0.mk (blk_drew BK420.out)
                          have n5_ := Aside0.mk (blk_drew BK435.out)
                          have n6_ := Aside0.mk (blk_drew BK436.out)
                          have n7_ := Aside0.mk (blk_drew BK447.out)
                          have n8_ := Aside0.mk (blk_drew BK451.out)
                          have n9_ := Aside0.mk (blk_drew BK455.out)
                          have n10_ := Aside0.mk (below_drew1 HB.out)
                          clear BK376
                          clear BK390
                          clear BK402
                          clear BK419
                          clear BK420
                          clear BK435
                          clear BK436
                          clear BK447
                          clear BK451
                          clear BK455
                          clear HB
                          have BK376 := n0_
                          have BK390 := n1_
                          have BK402 := n2_
                          have BK419 := n3_
                          have BK420 := n4_
                          have BK435 := n5_
                          have BK436 := n6_
                          have BK447 := n7_
                          have BK451 := n8_
                          have BK455 := n9_
                          have HB := n10_
                          clear n0_ n1_ n2_ n3_ n4_ n5_ n6_ n7_ n8_ n9_ n10_
                          refine start_ (n := 61) (S := fun w' => w'.cell? ⟨gb451, 0, none⟩ = some (.int .i64 t448) ∧ w'.cell? ⟨gb451, 1, none⟩ = some (.int .i64 t449) ∧ w'.cell? ⟨gb455, 0, none⟩ = some (.int .i64 t452) ∧ w'.cell? ⟨gb455, 1, none⟩ = some (.int .i64 t453) ∧ w'.cell? ⟨gb447, 0, none⟩ = some (.int .i64 t445) ∧ w'.cell? ⟨gb447, 1, none⟩ = some (.int .i64 t446)) (ds := []) #[false, false, false, false, false, false, false, false, false, false, false, false, false, false, false, false, false, false, false, false, false, false, false, false, false, false, false, false, false, false, false, false, false, false, false, false, false, false, false, false, false, false, false, false, false, false, false, false, false, false, false, false, false, false, false, false, false, false, false, false, false] (by kernel_rfl) rfl rfl ⟨(blk_cell BK451.out 0).trans rfl, (blk_cell BK451.out 1).trans rfl, (blk_cell BK455.out 0).trans rfl, (blk_cell BK455.out 1).trans rfl, (blk_cell BK447.out 0).trans rfl, (blk_cell BK447.out 1).trans rfl⟩ (fun hHeld => ?_); refine with_tabW laws_FnRatiosFound.tab34 laws_FnRatiosFound.bits34 (fun HT_ HW_ => ?_)
                          generalize w188.drew = w189 at BK376 BK390 BK402 BK419 BK420 BK435 BK436 BK447 BK451 BK455 HB hHeld ⊢
                          refine pure_ (i := 0) (N := some 403) (v := ?_) (a' := ?_) #[true, false, false, false, false, false, false, false, false, false, false, false, false, false, false, false, false, false, false, false, false, false, false, false, false, false, false, false, false, false, false, false, false, false, false, false, false, false, false, false, false, false, false, false, false, false, false, false, false, false, false, false, false, false, false, false, false, false, false, false, false] rfl rfl (any_of HT_.out (by kernel_rfl)) (fun _ _ _ h => h) (Or.inl ⟨by rfl, ?_⟩) ?_ ?_
                          rotate_left
                          ·intro w'
                           go_simp
                           with_reducible rfl
                          rotate_left
                          ·simp only [Act.put, List.setIfInBounds_toArray, List.set_cons_zero, List.set_cons_succ, i64_w, i32_w]
                           rfl
                          refine pure_ (i := 1) (N := some 404) (v := ?_) (a' := ?_) #[true, true, false, false, false, false, false, false, false, false, false, false, false, false, false, false, false, false, false, false, false, false, false, false, false, false, false, false, false, false, false, false, false, false, false, false, false, false, false, false, false, false, false, false, false, false, false, false, false, false, false, false, false, false, false, false, false, false, false, false, false] rfl rfl (any_of HT_.out (by kernel_rfl)) (fun _ _ _ h => h) (Or.inl ⟨by rfl, ?_⟩) ?_ ?_
                          rotate_left
                          ·intro w'
                           go_simp
                           with_reducible rfl
                          rotate_left
                          ·simp only [Act.put, List.setIfInBounds_toArray, List.set_cons_zero, List.set_cons_succ, i64_w, i32_w]
                           rfl
                          refine pure_ (i := 2) (N := some 405) (v := ?_) (a' := ?_) #[true, true, true, false, false, false, false, false, false, false, false, false, false, false, false, false, false, false, false, false, false, false, false, false, false, false, false, false, false, false, false, false, false, false, false, false, false, false, false, false, false, false, false, false, false, false, false, false, false, false, false, false, false, false, false, false, false, false, false, false, false] rfl rfl (any_of HT_.out (by kernel_rfl)) (fun _ _ _ h => h) (Or.inl ⟨by rfl, ?_⟩) ?_ ?_
                          rotate_left
                          ·intro w'
                           go_simp
                           with_reducible rfl
                          rotate_left
                          ·simp only [Act.put, List.setIfInBounds_toArray, List.set_cons_zero, List.set_cons_succ, i64_w, i32_w]
                           rfl
                          refine pure_ (i := 3) (N := some 406) (v := ?_) (a' := ?_) #[true, true, true, true, false, false, false, false, false, false, false, false, false, false, false, false, false, false, false, false, false, false, false, false, false, false, false, false, false, false, false, false, false, false, false, false, false, false, false, false, false, false, false, false, false, false, false, false, false, false, false, false, false, false, false, false, false, false, false, false, false] rfl rfl (any_of HT_.out (by kernel_rfl)) (fun _ _ _ h => h) (Or.inl ⟨by rfl, ?_⟩) ?_ ?_
                          rotate_left
                          ·intro w'
                           go_simp
                           with_reducible rfl
                          rotate_left
                          ·simp only [Act.put, List.setIfInBounds_toArray, List.set_cons_zero, List.set_cons_succ, i64_w, i32_w]
                           rfl
                          refine pure_ (i := 4) (N := some 407) (v := ?_) (a' := ?_) #[true, true, true, true, true, false, false, false, false, false, false, false, false, false, false, false, false, false, false, false, false, false, false, false, false, false, false, false, false, false, false, false, false, false, false, false, false, false, false, false, false, false, false, false, false, false, false, false, false, false, false, false, false, false, false, false, false, false, false, false, false] rfl rfl (any_of HT_.out (by kernel_rfl)) (fun _ _ _ h => h) (Or.inl ⟨by rfl, ?_⟩) ?_ ?_
                          rotate_left
                          ·intro w'
                           go_simp
                           with_reducible rfl
                          rotate_left
                          ·simp only [Act.put, List.setIfInBounds_toArray, List.set_cons_zero, List.set_cons_succ, i64_w, i32_w]
                           rfl
                          refine pure_ (i := 5) (N := some 408) (v := ?_) (a' := ?_) #[true, true, true, true, true, true, false, false, false, false, false, false, false, false, false, false, false, false, false, false, false, false, false, false, false, false, false, false, false, false, false, false, false, false, false, false, false, false, false, false, false, false, false, false, false, false, false, false, false, false, false, false, false, false, false, false, false, false, false, false, false] rfl rfl (any_of HT_.out (by kernel_rfl)) (fun _ _ _ h => h) (Or.inl ⟨by rfl, ?_⟩) ?_ ?_
                          rotate_left
                          ·intro w'
                           go_simp
                           with_reducible rfl
                          rotate_left
                          ·simp only [Act.put, List.setIfInBounds_toArray, List.set_cons_zero, List.set_cons_succ, i64_w, i32_w]
                           rfl
                          refine pure_ (i := 6) (N := some 409) (v := ?_) (a' := ?_) #[true, true, true, true, true, true, true, false, false, false, false, false, false, false, false, false, false, false, false, false, false, false, false, false, false, false, false, false, false, false, false, false, false, false, false, false, false, false, false, false, false, false, false, false, false, false, false, false, false, false, false, false, false, false, false, false, false, false, false, false, false] rfl rfl (any_of HT_.out (by kernel_rfl)) (fun _ _ _ h => h) (Or.inl ⟨by rfl, ?_⟩) ?_ ?_
                          rotate_left
                          ·intro w'
                           go_simp
                           with_reducible rfl
                          rotate_left
                          ·simp only [Act.put, List.setIfInBounds_toArray, List.set_cons_zero, List.set_cons_succ, i64_w, i32_w]
                           rfl
                          refine pure_ (i := 7) (N := some 410) (v := ?_) (a' := ?_) #[true, true, true, true, true, true, true, true, false, false, false, false, false, false, false, false, false, false, false, false, false, false, false, false, false, false, false, false, false, false, false, false, false, false, false, false, false, false, false, false, false, false, false, false, false, false, false, false, false, false, false, false, false, false, false, false, false, false, false, false, false] rfl rfl (any_of HT_.out (by kernel_rfl)) (fun _ _ _ h => h) (Or.inl ⟨by rfl, ?_⟩) ?_ ?_
                          rotate_left
                          ·intro w'
                           go_simp
                           with_reducible rfl
                          rotate_left
                          ·simp only [Act.put, List.setIfInBounds_toArray, List.set_cons_zero, List.set_cons_succ, i64_w, i32_w]
                           rfl
                          refine pure_ (i := 8) (N := some 411) (v := ?_) (a' := ?_) #[true, true, true, true, true, true, true, true, true, false, false, false, false, false, false, false, false, false, false, false, false, false, false, false, false, false, false, false, false, false, false, false, false, false, false, false, false, false, false, false, false, false, false, false, false, false, false, false, false, false, false, false, false, false, false, false, false, false, false, false, false] rfl rfl (any_of HT_.out (by kernel_rfl)) (fun _ _ _ h => h) (Or.inl ⟨by rfl, ?_⟩) ?_ ?_
                          rotate_left
                          ·intro w'
                           go_simp
                           with_reducible rfl
                          rotate_left
                          ·simp only [Act.put, List.setIfInBounds_toArray, List.set_cons_zero, List.set_cons_succ, i64_w, i32_w]
                           rfl
                          refine pure_ (i := 9) (N := some 412) (v := ?_) (a' := ?_) #[true, true, true, true, true, true, true, true, true, true, false, false, false, false, false, false, false, false, false, false, false, false, false, false, false, false, false, false, false, false, false, false, false, false, false, false, false, false, false, false, false, false, false, false, false, false, false, false, false, false, false, false, false, false, false, false, false, false, false, false, false] rfl rfl (any_of HT_.out (by kernel_rfl)) (fun _ _ _ h => h) (Or.inl ⟨by rfl, ?_⟩) ?_ ?_
                          rotate_left
                          ·intro w'
                           go_simp
                           with_reducible rfl
                          rotate_left
                          ·simp only [Act.put, List.setIfInBounds_toArray, List.set_cons_zero, List.set_cons_succ, i64_w, i32_w]
                           rfl
                          refine pure_ (i := 10) (N := some 413) (v := ?_) (a' := ?_) #[true, true, true, true, true, true, true, true, true, true, true, false, false, false, false, false, false, false, false, false, false, false, false, false, false, false, false, false, false, false, false, false, false, false, false, false, false, false, false, false, false, false, false, false, false, false, false, false, false, false, false, false, false, false, false, false, false, false, false, false, false] rfl rfl (any_of HT_.out (by kernel_rfl)) (fun _ _ _ h => h) (Or.inl ⟨by rfl, ?_⟩) ?_ ?_
                          rotate_left
                          ·intro w'
                           go_simp
                           with_reducible rfl
                          rotate_left
                          ·simp only [Act.put, List.setIfInBounds_toArray, List.set_cons_zero, List.set_cons_succ, i64_w, i32_w]
                           rfl
                          refine pure_ (i := 11) (N := some 414) (v := ?_) (a' := ?_) #[true, true, true, true, true, true, true, true, true, true, true, true, false, false, false, false, false, false, false, false, false, false, false, false, false, false, false, false, false, false, false, false, false, false, false, false, false, false, false, false, false, false, false, false, false, false, false, false, false, false, false, false, false, false, false, false, false, false, false, false, false] rfl rfl (any_of HT_.out (by kernel_rfl)) (fun _ _ _ h => h) (Or.inl ⟨by rfl, ?_⟩) ?_ ?_
                          rotate_left
                          ·intro w'
                           go_simp
                           with_reducible rfl
                          rotate_left
                          ·simp only [Act.put, List.setIfInBounds_toArray, List.set_cons_zero, List.set_cons_succ, i64_w, i32_w]
                           rfl
                          refine pure_ (i := 12) (N := some 415) (v := ?_) (a' := ?_) #[true, true, true, true, true, true, true, true, true, true, true, true, true, false, false, false, false, false, false, false, false, false, false, false, false, false, false, false, false, false, false, false, false, false, false, false, false, false, false, false, false, false, false, false, false, false, false, false, false, false, false, false, false, false, false, false, false, false, false, false, false] rfl rfl (any_of HT_.out (by kernel_rfl)) (fun _ _ _ h => h) (Or.inl ⟨by rfl, ?_⟩) ?_ ?_
                          rotate_left
                          ·intro w'
                           go_simp
                           with_reducible rfl
                          rotate_left
                          ·simp only [Act.put, List.setIfInBounds_toArray, List.set_cons_zero, List.set_cons_succ, i64_w, i32_w]
                           rfl
                          refine pure_ (i := 13) (N := some 416) (v := ?_) (a' := ?_) #[true, true, true, true, true, true, true, true, true, true, true, true, true, true, false, false, false, false, false, false, false, false, false, false, false, false, false, false, false, false, false, false, false, false, false, false, false, false, false, false, false, false, false, false, false, false, false, false, false, false, false, false, false, false, false, false, false, false, false, false, false] rfl rfl (any_of HT_.out (by kernel_rfl)) (fun _ _ _ h => h) (Or.inl ⟨by rfl, ?_⟩) ?_ ?_
                          rotate_left
                          ·intro w'
                           go_simp
                           with_reducible rfl
                          rotate_left
                          ·simp only [Act.put, List.setIfInBounds_toArray, List.set_cons_zero, List.set_cons_succ, i64_w, i32_w]
                           rfl
                          refine pure_ (i := 14) (N := some 417) (v := ?_) (a' := ?_) #[true, true, true, true, true, true, true, true, true, true, true, true, true, true, true, false, false, false, false, false, false, false, false, false, false, false, false, false, false, false, false, false, false, false, false, false, false, false, false, false, false, false, false, false, false, false, false, false, false, false, false, false, false, false, false, false, false, false, false, false, false] rfl rfl (any_of HT_.out (by kernel_rfl)) (fun _ _ _ h => h) (Or.inl ⟨by rfl, ?_⟩) ?_ ?_
                          rotate_left
                          ·intro w'
                           go_simp
                           with_reducible rfl
                          rotate_left
                          ·simp only [Act.put, List.setIfInBounds_toArray, List.set_cons_zero, List.set_cons_succ, i64_w, i32_w]
                           rfl
                          refine pure_ (i := 15) (N := some 418) (v := ?_) (a' := ?_) #[true, true, true, true, true, true, true, true, true, true, true, true, true, true, true, true, false, false, false, false, false, false, false, false, false, false, false, false, false, false, false, false, false, false, false, false, false, false, false, false, false, false, false, false, false, false, false, false, false, false, false, false, false, false, false, false, false, false, false, false, false] rfl rfl (any_of HT_.out (by kernel_rfl)) (fun _ _ _ h => h) (Or.inl ⟨by rfl, ?_⟩) ?_ ?_
                          rotate_left
                          ·intro w'
                           go_simp
                           with_reducible rfl
                          rotate_left
                          ·simp only [Act.put, List.setIfInBounds_toArray, List.set_cons_zero, List.set_cons_succ, i64_w, i32_w]
                           rfl
                          refine pure_ (i := 16) (N := some 419) (v := ?_) (a' := ?_) #[true, true, true, true, true, true, true, true, true, true, true, true, true, true, true, true, true, false, false, false, false, false, false, false, false, false, false, false, false, false, false, false, false, false, false, false, false, false, false, false, false, false, false, false, false, false, false, false, false, false, false, false, false, false, false, false, false, false, false, false, false] rfl rfl (any_of HT_.out (by kernel_rfl)) (fun _ _ _ h => h) (Or.inl ⟨by rfl, ?_⟩) ?_ ?_
                          rotate_left
                          ·intro w'
                           go_simp
                           with_reducible rfl
                          rotate_left
                          ·simp only [Act.put, List.setIfInBounds_toArray, List.set_cons_zero, List.set_cons_succ, i64_w, i32_w]
                           rfl
                          refine pure_ (i := 17) (N := some 420) (v := ?_) (a' := ?_) #[true, true, true, true, true, true, true, true, true, true, true, true, true, true, true, true, true, true, false, false, false, false, false, false, false, false, false, false, false, false, false, false, false, false, false, false, false, false, false, false, false, false, false, false, false, false, false, false, false, false, false, false, false, false, false, false, false, false, false, false, false] rfl rfl (any_of HT_.out (by kernel_rfl)) (fun _ _ _ h => h) (Or.inl ⟨by rfl, ?_⟩) ?_ ?_
                          rotate_left
                          ·intro w'
                           go_simp
                           with_reducible rfl
                          rotate_left
                          ·simp only [Act.put, List.setIfInBounds_toArray, List.set_cons_zero, List.set_cons_succ, i64_w, i32_w]
                           rfl
                          refine pure_ (i := 18) (N := some 421) (v := ?_) (a' := ?_) #[true, true, true, true, true, true, true, true, true, true, true, true, true, true, true, true, true, true, true, false, false, false, false, false, false, false, false, false, false, false, false, false, false, false, false, false, false, false, false, false, false, false, false, false, false, false, false, false, false, false, false, false, false, false, false, false, false, false, false, false, false] rfl rfl (any_of HT_.out (by kernel_rfl)) (fun _ _ _ h => h) (Or.inl ⟨by rfl, ?_⟩) ?_ ?_
                          rotate_left
                          ·intro w'
                           go_simp
                           with_reducible rfl
                          rotate_left
                          ·simp only [Act.put, List.setIfInBounds_toArray, List.set_cons_zero, List.set_cons_succ, i64_w, i32_w]
                           rfl
                          refine pure_ (i := 19) (N := some 422) (v := ?_) (a' := ?_) #[true, true, true, true, true, true, true, true, true, true, true, true, true, true, true, true, true, true, true, true, false, false, false, false, false, false, false, false, false, false, false, false, false, false, false, false, false, false, false, false, false, false, false, false, false, false, false, false, false, false, false, false, false, false, false, false, false, false, false, false, false] rfl rfl (any_of HT_.out (by kernel_rfl)) (fun _ _ _ h => h) (Or.inl ⟨by rfl, ?_⟩) ?_ ?_
                          rotate_left
                          ·intro w'
                           go_simp
                           with_reducible rfl
                          rotate_left
                          ·simp only [Act.put, List.setIfInBounds_toArray, List.set_cons_zero, List.set_cons_succ, i64_w, i32_w]
                           rfl
                          refine pure_ (i := 20) (N := some 423) (v := ?_) (a' := ?_) #[true, true, true, true, true, true, true, true, true, true, true, true, true, true, true, true, true, true, true, true, true, false, false, false, false, false, false, false, false, false, false, false, false, false, false, false, false, false, false, false, false, false, false, false, false, false, false, false, false, false, false, false, false, false, false, false, false, false, false, false, false] rfl rfl (any_of HT_.out (by kernel_rfl)) (fun _ _ _ h => h) (Or.inl ⟨by rfl, ?_⟩) ?_ ?_
                          rotate_left
                          ·intro w'
                           go_simp
                           with_reducible rfl
                          rotate_left
                          ·simp only [Act.put, List.setIfInBounds_toArray, List.set_cons_zero, List.set_cons_succ, i64_w, i32_w]
                           rfl
                          refine pure_ (i := 21) (N := some 424) (v := ?_) (a' := ?_) #[true, true, true, true, true, true, true, true, true, true, true, true, true, true, true, true, true, true, true, true, true, true, false, false, false, false, false, false, false, false, false, false, false, false, false, false, false, false, false, false, false, false, false, false, false, false, false, false, false, false, false, false, false, false, false, false, false, false, false, false, false] rfl rfl (any_of HT_.out (by kernel_rfl)) (fun _ _ _ h => h) (Or.inl ⟨by rfl, ?_⟩) ?_ ?_
                          rotate_left
                          ·intro w'
                           go_simp
                           with_reducible rfl
                          rotate_left
                          ·simp only [Act.put, List.setIfInBounds_toArray, List.set_cons_zero, List.set_cons_succ, i64_w, i32_w]
                           rfl
                          refine pure_ (i := 22) (N := some 425) (v := ?_) (a' := ?_) #[true, true, true, true, true, true, true, true, true, true, true, true, true, true, true, true, true, true, true, true, true, true, true, false, false, false, false, false, false, false, false, false, false, false, false, false, false, false, false, false, false, false, false, false, false, false, false, false, false, false, false, false, false, false, false, false, false, false, false, false, false] rfl rfl (any_of HT_.out (by kernel_rfl)) (fun _ _ _ h => h) (Or.inl ⟨by rfl, ?_⟩) ?_ ?_
                          rotate_left
                          ·intro w'
                           go_simp
                           with_reducible rfl
                          rotate_left
                          ·simp only [Act.put, List.setIfInBounds_toArray, List.set_cons_zero, List.set_cons_succ, i64_w, i32_w]
                           rfl
                          refine pure_ (i := 23) (N := some 426) (v := ?_) (a' := ?_) #[true, true, true, true, true, true, true, true, true, true, true, true, true, true, true, true, true, true, true, true, true, true, true, true, false, false, false, false, false, false, false, false, false, false, false, false, false, false, false, false, false, false, false, false, false, false, false, false, false, false, false, false, false, false, false, false, false, false, false, false, false] rfl rfl (any_of HT_.out (by kernel_rfl)) (fun _ _ _ h => h) (Or.inl ⟨by rfl, ?_⟩) ?_ ?_
                          rotate_left
                          ·intro w'
                           go_simp
                           with_reducible rfl
                          rotate_left
                          ·simp only [Act.put, List.setIfInBounds_toArray, List.set_cons_zero, List.set_cons_succ, i64_w, i32_w]
                           rfl
                          refine pure_ (i := 24) (N := some 427) (v := ?_) (a' := ?_) #[true, true, true, true, true, true, true, true, true, true, true, true, true, true, true, true, true, true, true, true, true, true, true, true, true, false, false, false, false, false, false, false, false, false, false, false, false, false, false, false, false, false, false, false, false, false, false, false, false, false, false, false, false, false, false, false, false, false, false, false, false] rfl rfl (any_of HT_.out (by kernel_rfl)) (fun _ _ _ h => h) (Or.inl ⟨by rfl, ?_⟩) ?_ ?_
                          rotate_left
                          ·intro w'
                           go_simp
                           with_reducible rfl
                          rotate_left
                          ·simp only [Act.put, List.setIfInBounds_toArray, List.set_cons_zero, List.set_cons_succ, i64_w, i32_w]
                           rfl
                          refine pure_ (i := 25) (N := some 428) (v := ?_) (a' := ?_) #[true, true, true, true, true, true, true, true, true, true, true, true, true, true, true, true, true, true, true, true, true, true, true, true, true, true, false, false, false, false, false, false, false, false, false, false, false, false, false, false, false, false, false, false, false, false, false, false, false, false, false, false, false, false, false, false, false, false, false, false, false] rfl rfl (any_of HT_.out (by kernel_rfl)) (fun _ _ _ h => h) (Or.inl ⟨by rfl, ?_⟩) ?_ ?_
                          rotate_left
                          ·intro w'
                           go_simp
                           with_reducible rfl
                          rotate_left
                          ·simp only [Act.put, List.setIfInBounds_toArray, List.set_cons_zero, List.set_cons_succ, i64_w, i32_w]
                           rfl
                          refine pure_ (i := 26) (N := some 429) (v := ?_) (a' := ?_) #[true, true, true, true, true, true, true, true, true, true, true, true, true, true, true, true, true, true, true, true, true, true, true, true, true, true, true, false, false, false, false, false, false, false, false, false, false, false, false, false, false, false, false, false, false, false, false, false, false, false, false, false, false, false, false, false, false, false, false, false, false] rfl rfl (any_of HT_.out (by kernel_rfl)) (fun _ _ _ h => h) (Or.inl ⟨by rfl, ?_⟩) ?_ ?_
                          rotate_left
                          ·intro w'
                           go_simp
                           with_reducible rfl
                          rotate_left
                          ·simp only [Act.put, List.setIfInBounds_toArray, List.set_cons_zero, List.set_cons_succ, i64_w, i32_w]
                           rfl
                          refine pure_ (i := 27) (N := some 430) (v := ?_) (a' := ?_) #[true, true, true, true, true, true, true, true, true, true, true, true, true, true, true, true, true, true, true, true, true, true, true, true, true, true, true, true, false, false, false, false, false, false, false, false, false, false, false, false, false, false, false, false, false, false, false, false, false, false, false, false, false, false, false, false, false, false, false, false, false] rfl rfl (any_of HT_.out (by kernel_rfl)) (fun _ _ _ h => h) (Or.inl ⟨by rfl, ?_⟩) ?_ ?_
                          rotate_left
                          ·intro w'
                           go_simp
                           with_reducible rfl
                          rotate_left
                          ·simp only [Act.put, List.setIfInBounds_toArray, List.set_cons_zero, List.set_cons_succ, i64_w, i32_w]
                           rfl
                          refine pure_ (i := 28) (N := some 431) (v := ?_) (a' := ?_) #[true, true, true, true, true, true, true, true, true, true, true, true, true, true, true, true, true, true, true, true, true, true, true, true, true, true, true, true, true, false, false, false, false, false, false, false, false, false, false, false, false, false, false, false, false, false, false, false, false, false, false, false, false, false, false, false, false, false, false, false, false] rfl rfl (any_of HT_.out (by kernel_rfl)) (fun _ _ _ h => h) (Or.inl ⟨by rfl, ?_⟩) ?_ ?_
                          rotate_left
                          ·intro w'
                           go_simp
                           with_reducible rfl
                          rotate_left
                          ·simp only [Act.put, List.setIfInBounds_toArray, List.set_cons_zero, List.set_cons_succ, i64_w, i32_w]
                           rfl
                          refine pure_ (i := 29) (N := some 432) (v := ?_) (a' := ?_) #[true, true, true, true, true, true, true, true, true, true, true, true, true, true, true, true, true, true, true, true, true, true, true, true, true, true, true, true, true, true, false, false, false, false, false, false, false, false, false, false, false, false, false, false, false, false, false, false, false, false, false, false, false, false, false, false, false, false, false, false, false] rfl rfl (any_of HT_.out (by kernel_rfl)) (fun _ _ _ h => h) (Or.inl ⟨by rfl, ?_⟩) ?_ ?_
                          rotate_left
                          ·intro w'
                           go_simp
                           with_reducible rfl
                          rotate_left
                          ·simp only [Act.put, List.setIfInBounds_toArray, List.set_cons_zero, List.set_cons_succ, i64_w, i32_w]
                           rfl
                          refine pure_ (i := 30) (N := some 433) (v := ?_) (a' := ?_) #[true, true, true, true, true, true, true, true, true, true, true, true, true, true, true, true, true, true, true, true, true, true, true, true, true, true, true, true, true, true, true, false, false, false, false, false, false, false, false, false, false, false, false, false, false, false, false, false, false, false, false, false, false, false, false, false, false, false, false, false, false] rfl rfl (any_of HT_.out (by kernel_rfl)) (fun _ _ _ h => h) (Or.inl ⟨by rfl, ?_⟩) ?_ ?_
                          rotate_left
                          ·intro w'
                           go_simp
                           with_reducible rfl
                          rotate_left
                          ·simp only [Act.put, List.setIfInBounds_toArray, List.set_cons_zero, List.set_cons_succ, i64_w, i32_w]
                           rfl
                          refine pure_ (i := 31) (N := some 434) (v := ?_) (a' := ?_) #[true, true, true, true, true, true, true, true, true, true, true, true, true, true, true, true, true, true, true, true, true, true, true, true, true, true, true, true, true, true, true, true, false, false, false, false, false, false, false, false, false, false, false, false, false, false, false, false, false, false, false, false, false, false, false, false, false, false, false, false, false] rfl rfl (any_of HT_.out (by kernel_rfl)) (fun _ _ _ h => h) (Or.inl ⟨by rfl, ?_⟩) ?_ ?_
                          rotate_left
                          ·intro w'
                           go_simp
                           with_reducible rfl
                          rotate_left
                          ·simp only [Act.put, List.setIfInBounds_toArray, List.set_cons_zero, List.set_cons_succ, i64_w, i32_w]
                           rfl
                          refine pure_ (i := 32) (N := some 435) (v := ?_) (a' := ?_) #[true, true, true, true, true, true, true, true, true, true, true, true, true, true, true, true, true, true, true, true, true, true, true, true, true, true, true, true, true, true, true, true, true, false, false, false, false, false, false, false, false, false, false, false, false, false, false, false, false, false, false, false, false, false, false, false, false, false, false, false, false] rfl rfl (any_of HT_.out (by kernel_rfl)) (fun _ _ _ h => h) (Or.inl ⟨by rfl, ?_⟩) ?_ ?_
                          rotate_left
                          ·intro w'
                           go_simp
                           with_reducible rfl
                          rotate_left
                          ·simp only [Act.put, List.setIfInBounds_toArray, List.set_cons_zero, List.set_cons_succ, i64_w, i32_w]
                           rfl
                          refine pure_ (i := 33) (N := some 436) (v := ?_) (a' := ?_) #[true, true, true, true, true, true, true, true, true, true, true, true, true, true, true, true, true, true, true, true, true, true, true, true, true, true, true, true, true, true, true, true, true, true, false, false, false, false, false, false, false, false, false, false, false, false, false, false, false, false, false, false, false, false, false, false, false, false, false, false, false] rfl rfl (any_of HT_.out (by kernel_rfl)) (fun _ _ _ h => h) (Or.inl ⟨by rfl, ?_⟩) ?_ ?_
                          rotate_left
                          ·intro w'
                           go_simp
                           with_reducible rfl
                          rotate_left
                          ·simp only [Act.put, List.setIfInBounds_toArray, List.set_cons_zero, List.set_cons_succ, i64_w, i32_w]
                           rfl
                          refine pure_ (i := 34) (N := some 437) (v := ?_) (a' := ?_) #[true, true, true, true, true, true, true, true, true, true, true, true, true, true, true, true, true, true, true, true, true, true, true, true, true, true, true, true, true, true, true, true, true, true, true, false, false, false, false, false, false, false, false, false, false, false, false, false, false, false, false, false, false, false, false, false, false, false, false, false, false] rfl rfl (any_of HT_.out (by kernel_rfl)) (fun _ _ _ h => h) (Or.inl ⟨by rfl, ?_⟩) ?_ ?_
                          rotate_left
                          ·intro w'
                           go_simp
                           with_reducible rfl
                          rotate_left
                          ·simp only [Act.put, List.setIfInBounds_toArray, List.set_cons_zero, List.set_cons_succ, i64_w, i32_w]
                           rfl
                          refine pure_ (i := 35) (N := some 438) (v := ?_) (a' := ?_) #[true, true, true, true, true, true, true, true, true, true, true, true, true, true, true, true, true, true, true, true, true, true, true, true, true, true, true, true, true, true, true, true, true, true, true, true, false, false, false, false, false, false, false, false, false, false, false, false, false, false, false, false, false, false, false, false, false, false, false, false, false] rfl rfl (any_of HT_.out (by kernel_rfl)) (fun _ _ _ h => h) (Or.inl ⟨by rfl, ?_⟩) ?_ ?_
                          rotate_left
                          ·intro w'
                           go_simp
                           with_reducible rfl
                          rotate_left
                          ·simp only [Act.put, List.setIfInBounds_toArray, List.set_cons_zero, List.set_cons_succ, i64_w, i32_w]
                           rfl
                          refine pure_ (i := 36) (N := some 439) (v := ?_) (a' := ?_) #[true, true, true, true, true, true, true, true, true, true, true, true, true, true, true, true, true, true, true, true, true, true, true, true, true, true, true, true, true, true, true, true, true, true, true, true, true, false, false, false, false, false, false, false, false, false, false, false, false, false, false, false, false, false, false, false, false, false, false, false, false] rfl rfl (any_of HT_.out (by kernel_rfl)) (fun _ _ _ h => h) (Or.inl ⟨by rfl, ?_⟩) ?_ ?_
                          rotate_left
                          ·intro w'
                           go_simp
                           with_reducible rfl
                          rotate_left
                          ·simp only [Act.put, List.setIfInBounds_toArray, List.set_cons_zero, List.set_cons_succ, i64_w, i32_w]
                           rfl
                          refine pure_ (i := 37) (N := some 440) (v := ?_) (a' := ?_) #[true, true, true, true, true, true, true, true, true, true, true, true, true, true, true, true, true, true, true, true, true, true, true, true, true, true, true, true, true, true, true, true, true, true, true, true, true, true, false, false, false, false, false, false, false, false, false, false, false, false, false, false, false, false, false, false, false, false, false, false, false] rfl rfl (any_of HT_.out (by kernel_rfl)) (fun _ _ _ h => h) (Or.inl ⟨by rfl, ?_⟩) ?_ ?_
                          rotate_left
                          ·intro w'
                           go_simp
                           with_reducible rfl
                          rotate_left
                          ·simp only [Act.put, List.setIfInBounds_toArray, List.set_cons_zero, List.set_cons_succ, i64_w, i32_w]
                           rfl
                          refine pure_ (i := 38) (N := some 441) (v := ?_) (a' := ?_) #[true, true, true, true, true, true, true, true, true, true, true, true, true, true, true, true, true, true, true, true, true, true, true, true, true, true, true, true, true, true, true, true, true, true, true, true, true, true, true, false, false, false, false, false, false, false, false, false, false, false, false, false, false, false, false, false, false, false, false, false, false] rfl rfl (any_of HT_.out (by kernel_rfl)) (fun _ _ _ h => h) (Or.inl ⟨by rfl, ?_⟩) ?_ ?_
                          rotate_left
                          ·intro w'
                           go_simp
                           with_reducible rfl
                          rotate_left
                          ·simp only [Act.put, List.setIfInBounds_toArray, List.set_cons_zero, List.set_cons_succ, i64_w, i32_w]
                           rfl
                          refine pure_ (i := 39) (N := some 442) (v := ?_) (a' := ?_) #[true, true, true, true, true, true, true, true, true, true, true, true, true, true, true, true, true, true, true, true, true, true, true, true, true, true, true, true, true, true, true, true, true, true, true, true, true, true, true, true, false, false, false, false, false, false, false, false, false, false, false, false, false, false, false, false, false, false, false, false, false] rfl rfl (any_of HT_.out (by kernel_rfl)) (fun _ _ _ h => h) (Or.inl ⟨by rfl, ?_⟩) ?_ ?_
                          rotate_left
                          ·intro w'
                           go_simp
                           with_reducible rfl
                          rotate_left
                          ·simp only [Act.put, List.setIfInBounds_toArray, List.set_cons_zero, List.set_cons_succ, i64_w, i32_w]
                           rfl
                          refine pure_ (i := 40) (N := some 443) (v := ?_) (a' := ?_) #[true, true, true, true, true, true, true, true, true, true, true, true, true, true, true, true, true, true, true, true, true, true, true, true, true, true, true, true, true, true, true, true, true, true, true, true, true, true, true, true, true, false, false, false, false, false, false, false, false, false, false, false, false, false, false, false, false, false, false, false, false] rfl rfl (any_of HT_.out (by kernel_rfl)) (fun _ _ _ h => h) (Or.inl ⟨by rfl, ?_⟩) ?_ ?_
                          rotate_left
                          ·intro w'
                           go_simp
                           with_reducible rfl
                          rotate_left
                          ·simp only [Act.put, List.setIfInBounds_toArray, List.set_cons_zero, List.set_cons_succ, i64_w, i32_w]
                           rfl
                          refine pure_ (i := 41) (N := some 444) (v := ?_) (a' := ?_) #[true, true, true, true, true, true, true, true, true, true, true, true, true, true, true, true, true, true, true, true, true, true, true, true, true, true, true, true, true, true, true, true, true, true, true, true, true, true, true, true, true, true, false, false, false, false, false, false, false, false, false, false, false, false, false, false, false, false, false, false, false] rfl rfl (any_of HT_.out (by kernel_rfl)) (fun _ _ _ h => h) (Or.inl ⟨by rfl, ?_⟩) ?_ ?_
                          rotate_left
                          ·intro w'
                           go_simp
                           with_reducible rfl
                          rotate_left
                          ·simp only [Act.put, List.setIfInBounds_toArray, List.set_cons_zero, List.set_cons_succ, i64_w, i32_w]
                           rfl
                          refine pure_ (i := 42) (N := some 445) (v := ?_) (a' := ?_) #[true, true, true, true, true, true, true, true, true, true, true, true, true, true, true, true, true, true, true, true, true, true, true, true, true, true, true, true, true, true, true, true, true, true, true, true, true, true, true, true, true, true, true, false, false, false, false, false, false, false, false, false, false, false, false, false, false, false, false, false, false] rfl rfl (any_of HT_.out (by kernel_rfl)) (fun _ _ _ h => h) (Or.inl ⟨by rfl, ?_⟩) ?_ ?_
                          rotate_left
                          ·intro w'
                           go_simp
                           with_reducible rfl
                          rotate_left
                          ·simp only [Act.put, List.setIfInBounds_toArray, List.set_cons_zero, List.set_cons_succ, i64_w, i32_w]
                           rfl
                          refine pure_ (i := 43) (N := some 446) (v := ?_) (a' := ?_) #[true, true, true, true, true, true, true, true, true, true, true, true, true, true, true, true, true, true, true, true, true, true, true, true, true, true, true, true, true, true, true, true, true, true, true, true, true, true, true, true, true, true, true, true, false, false, false, false, false, false, false, false, false, false, false, false, false, false, false, false, false] rfl rfl (any_of HT_.out (by kernel_rfl)) (fun _ _ _ h => h) (Or.inl ⟨by rfl, ?_⟩) ?_ ?_
                          rotate_left
                          ·intro w'
                           go_simp
                           with_reducible rfl
                          rotate_left
                          ·simp only [Act.put, List.setIfInBounds_toArray, List.set_cons_zero, List.set_cons_succ, i64_w, i32_w]
                           rfl
                          refine take_ (i := 44) (N := some 447) (v := ?_) (a' := ?_) #[true, true, true, true, true, true, true, true, true, true, true, true, true, true, true, true, true, true, true, true, true, true, true, true, true, true, true, true, true, true, true, true, true, true, true, true, true, true, true, true, true, true, true, true, true, false, false, false, false, false, false, false, false, false, false, false, false, false, false, false, false] rfl rfl (take_ofW HT_.out HW_.out (by kernel_rfl)) (fun _ _ _ h => h) (Or.inl ⟨by rfl, ?_⟩) hHeld ?_ ?_
                          rotate_left
                          ·rintro w' ⟨s0, s1, s2, s3, s4, s5⟩
                           go_simp
                           with_reducible rfl
                          rotate_left
                          ·simp only [Act.put, List.setIfInBounds_toArray, List.set_cons_zero, List.set_cons_succ, i64_w, i32_w]
                           rfl
                          refine take_ (i := 45) (N := some 448) (v := ?_) (a' := ?_) #[true, true, true, true, true, true, true, true, true, true, true, true, true, true, true, true, true, true, true, true, true, true, true, true, true, true, true, true, true, true, true, true, true, true, true, true, true, true, true, true, true, true, true, true, true, true, false, false, false, false, false, false, false, false, false, false, false, false, false, false, false] rfl rfl (take_ofW HT_.out HW_.out (by kernel_rfl)) (fun _ _ _ h => h) (Or.inl ⟨by rfl, ?_⟩) hHeld ?_ ?_
                          rotate_left
                          ·rintro w' ⟨s0, s1, s2, s3, s4, s5⟩
                           go_simp
                           with_reducible rfl
                          rotate_left
                          ·simp only [Act.put, List.setIfInBounds_toArray, List.set_cons_zero, List.set_cons_succ, i64_w, i32_w]
                           rfl
                          refine pure_ (i := 46) (N := some 449) (v := ?_) (a' := ?_) #[true, true, true, true, true, true, true, true, true, true, true, true, true, true, true, true, true, true, true, true, true, true, true, true, true, true, true, true, true, true, true, true, true, true, true, true, true, true, true, true, true, true, true, true, true, true, true, false, false, false, false, false, false, false, false, false, false, false, false, false, false] rfl rfl (any_of HT_.out (by kernel_rfl)) (fun _ _ _ h => h) (Or.inl ⟨by rfl, ?_⟩) ?_ ?_
                          rotate_left
                          ·intro w'
                           go_simp
                           with_reducible rfl
                          rotate_left
                          ·simp only [Act.put, List.setIfInBounds_toArray, List.set_cons_zero, List.set_cons_succ, i64_w, i32_w]
                           rfl
                          refine pure_ (i := 47) (N := some 450) (v := ?_) (a' := ?_) #[true, true, true, true, true, true, true, true, true, true, true, true, true, true, true, true, true, true, true, true, true, true, true, true, true, true, true, true, true, true, true, true, true, true, true, true, true, true, true, true, true, true, true, true, true, true, true, true, false, false, false, false, false, false, false, false, false, false, false, false, false] rfl rfl (any_of HT_.out (by kernel_rfl)) (fun _ _ _ h => h) (Or.inl ⟨by rfl, ?_⟩) ?_ ?_
                          rotate_left
                          ·intro w'
                           go_simp
                           with_reducible rfl
                          rotate_left
                          ·simp only [Act.put, List.setIfInBounds_toArray, List.set_cons_zero, List.set_cons_succ, i64_w, i32_w]
                           rfl
                          refine pure_ (i := 48) (N := some 451) (v := ?_) (a' := ?_) #[true, true, true, true, true, true, true, true, true, true, true, true, true, true, true, true, true, true, true, true, true, true, true, true, true, true, true, true, true, true, true, true, true, true, true, true, true, true, true, true, true, true, true, true, true, true, true, true, true, false, false, false, false, false, false, false, false, false, false, false, false] rfl rfl (any_of HT_.out (by kernel_rfl)) (fun _ _ _ h => h) (Or.inl ⟨by rfl, ?_⟩) ?_ ?_
                          rotate_left
                          ·intro w'
                           go_simp
                           with_reducible rfl
                          rotate_left
                          ·simp only [Act.put, List.setIfInBounds_toArray, List.set_cons_zero, List.set_cons_succ, i64_w, i32_w]
                           rfl
                          refine pure_ (i := 49) (N := some 452) (v := ?_) (a' := ?_) #[true, true, true, true, true, true, true, true, true, true, true, true, true, true, true, true, true, true, true, true, true, true, true, true, true, true, true, true, true, true, true, true, true, true, true, true, true, true, true, true, true, true, true, true, true, true, true, true, true, true, false, false, false, false, false, false, false, false, false, false, false] rfl rfl (any_of HT_.out (by kernel_rfl)) (fun _ _ _ h => h) (Or.inl ⟨by rfl, ?_⟩) ?_ ?_
                          rotate_left
                          ·intro w'
                           go_simp
                           with_reducible rfl
                          rotate_left
                          ·simp only [Act.put, List.setIfInBounds_toArray, List.set_cons_zero, List.set_cons_succ, i64_w, i32_w]
                           rfl
                          refine take_ (i := 50) (N := some 453) (v := ?_) (a' := ?_) #[true, true, true, true, true, true, true, true, true, true, true, true, true, true, true, true, true, true, true, true, true, true, true, true, true, true, true, true, true, true, true, true, true, true, true, true, true, true, true, true, true, true, true, true, true, true, true, true, true, true, true, false, false, false, false, false, false, false, false, false, false] rfl rfl (take_ofW HT_.out HW_.out (by kernel_rfl)) (fun _ _ _ h => h) (Or.inl ⟨by rfl, ?_⟩) hHeld ?_ ?_
                          rotate_left
                          ·rintro w' ⟨s0, s1, s2, s3, s4, s5⟩
                           go_simp
                           with_reducible rfl
                          rotate_left
                          ·simp only [Act.put, List.setIfInBounds_toArray, List.set_cons_zero, List.set_cons_succ, i64_w, i32_w]
                           rfl
                          refine one_ (i := 51) (N := some 454) #[true, true, true, true, true, true, true, true, true, true, true, true, true, true, true, true, true, true, true, true, true, true, true, true, true, true, true, true, true, true, true, true, true, true, true, true, true, true, true, true, true, true, true, true, true, true, true, true, true, true, true, true, false, false, false, false, false, false, false, false, false] rfl rfl (one_of HT_.out (by kernel_rfl)) (by decide) (fun K hK => ?_)
                          refine goes_ Try.func49 (by kernel_rfl) rfl #[.agg #[.int .i64 t445, .int .i64 t446]] (by rfl) rfl rfl (by (try simp only [List.map_toArray, List.map_cons, List.map_nil]); first | done | rfl | (simp only [List.length_drop, List.length_take]; rfl)) ?_
                          with_reducible refine (impl_IsRatio.calls t445 t446 t456 _ A184.out).mono ?_
                          rintro e w190 ⟨rfl, hb⟩
                          refine ⟨_, rfl, ?_⟩
                          have n0_ := kB BK376 hb
                          have n1_ := kB BK390 hb
                          have n2_ := kB BK402 hb
                          have n3_ := kB BK419 hb
                          have n4_ := kB BK420 hb
                          have n5_ := kB BK435 hb
                          have n6_ := kB BK436 hb
                          have n7_ := kB BK447 hb
                          have n8_ := kB BK451 hb
                          have n9_ := kB BK455 hb
                          have n10_ := kH HB hb
                          clear BK376
                          clear BK390
                          clear BK402
                          clear BK419
                          clear BK420
                          clear BK435
                          clear BK436
                          clear BK447
                          clear BK451
                          clear BK455
                          clear HB
                          have BK376 := n0_
                          have BK390 := n1_
                          have BK402 := n2_
                          have BK419 := n3_
                          have BK420 := n4_
                          have BK435 := n5_
                          have BK436 := n6_
                          have BK447 := n7_
                          have BK451 := n8_
                          have BK455 := n9_
                          have HB := n10_
                          clear n0_ n1_ n2_ n3_ n4_ n5_ n6_ n7_ n8_ n9_ n10_
                          refine hK.out _ _ ⟨(blk_cell BK451.out 0).trans rfl, (blk_cell BK451.out 1).trans rfl, (blk_cell BK455.out 0).trans rfl, (blk_cell BK455.out 1).trans rfl, (blk_cell BK447.out 0).trans rfl, (blk_cell BK447.out 1).trans rfl⟩ (fun hHeld => ?_)
                          clear hK K
                          refine norm_ (a' := ?_) ?_ ?_
                          rotate_left
                          ·show Act.put _ (some 454) _ = _
                           simp only [Act.put, List.setIfInBounds_toArray, List.set_cons_zero, List.set_cons_succ, i64_w, i32_w]
                           rfl
                          refine pure_ (i := 52) (N := some 455) (v := ?_) (a' := ?_) #[true, true, true, true, true, true, true, true, true, true, true, true, true, true, true, true, true, true, true, true, true, true, true, true, true, true, true, true, true, true, true, true, true, true, true, true, true, true, true, true, true, true, true, true, true, true, true, true, true, true, true, true, true, false, false, false, false, false, false, false, false] rfl rfl (any_of HT_.out (by kernel_rfl)) (fun _ _ _ h => h) (Or.inl ⟨by rfl, ?_⟩) ?_ ?_
                          rotate_left
                          ·intro w'
                           go_simp
                           with_reducible rfl
                          rotate_left
                          ·simp only [Act.put, List.setIfInBounds_toArray, List.set_cons_zero, List.set_cons_succ, i64_w, i32_w]
                           rfl
                          refine pure_ (i := 53) (N := some 456) (v := ?_) (a' := ?_) #[true, true, true, true, true, true, true, true, true, true, true, true, true, true, true, true, true, true, true, true, true, true, true, true, true, true, true, true, true, true, true, true, true, true, true, true, true, true, true, true, true, true, true, true, true, true, true, true, true, true, true, true, true, true, false, false, false, false, false, false, false] rfl rfl (any_of HT_.out (by kernel_rfl)) (fun _ _ _ h => h) (Or.inl ⟨by rfl, ?_⟩) ?_ ?_
                          rotate_left
                          ·intro w'
                           go_simp
                           with_reducible rfl
                          rotate_left
                          ·simp only [Act.put, List.setIfInBounds_toArray, List.set_cons_zero, List.set_cons_succ, i64_w, i32_w]
                           rfl
                          refine pure_ (i := 54) (N := some 457) (v := ?_) (a' := ?_) #[true, true, true, true, true, true, true, true, true, true, true, true, true, true, true, true, true, true, true, true, true, true, true, true, true, true, true, true, true, true, true, true, true, true, true, true, true, true, true, true, true, true, true, true, true, true, true, true, true, true, true, true, true, true, true, false, false, false, false, false, false] rfl rfl (any_of HT_.out (by kernel_rfl)) (fun _ _ _ h => h) (Or.inl ⟨by rfl, ?_⟩) ?_ ?_
                          rotate_left
                          ·intro w'
                           go_simp
                           with_reducible rfl
                          rotate_left
                          ·simp only [Act.put, List.setIfInBounds_toArray, List.set_cons_zero, List.set_cons_succ, i64_w, i32_w]
                           rfl
                          refine take_ (i := 55) (N := some 458) (v := ?_) (a' := ?_) #[true, true, true, true, true, true, true, true, true, true, true, true, true, true, true, true, true, true, true, true, true, true, true, true, true, true, true, true, true, true, true, true, true, true, true, true, true, true, true, true, true, true, true, true, true, true, true, true, true, true, true, true, true, true, true, true, false, false, false, false, false] rfl rfl (take_ofW HT_.out HW_.out (by kernel_rfl)) (fun _ _ _ h => h) (Or.inl ⟨by rfl, ?_⟩) hHeld ?_ ?_
                          rotate_left
                          ·rintro w' ⟨s0, s1, s2, s3, s4, s5⟩
                           go_simp
                           with_reducible rfl
                          rotate_left
                          ·simp only [Act.put, List.setIfInBounds_toArray, List.set_cons_zero, List.set_cons_succ, i64_w, i32_w]
                           rfl
                          refine take_ (i := 57) (N := some 460) (v := ?_) (a' := ?_) #[true, true, true, true, true, true, true, true, true, true, true, true, true, true, true, true, true, true, true, true, true, true, true, true, true, true, true, true, true, true, true, true, true, true, true, true, true, true, true, true, true, true, true, true, true, true, true, true, true, true, true, true, true, true, true, true, false, true, false, false, false] rfl rfl (take_ofW HT_.out HW_.out (by kernel_rfl)) (fun _ _ _ h => h) (Or.inl ⟨by rfl, ?_⟩) hHeld ?_ ?_
                          rotate_left
                          ·rintro w' ⟨s0, s1, s2, s3, s4, s5⟩
                           go_simp
                           with_reducible rfl
                          rotate_left
                          ·simp only [Act.put, List.setIfInBounds_toArray, List.set_cons_zero, List.set_cons_succ, i64_w, i32_w]
                           rfl
                          refine one_ (i := 56) (N := some 459) #[true, true, true, true, true, true, true, true, true, true, true, true, true, true, true, true, true, true, true, true, true, true, true, true, true, true, true, true, true, true, true, true, true, true, true, true, true, true, true, true, true, true, true, true, true, true, true, true, true, true, true, true, true, true, true, true, true, true, false, false, false] rfl rfl (one_of HT_.out (by kernel_rfl)) (by decide) (fun K hK => ?_)
                          refine goes_ Try.func49 (by kernel_rfl) rfl #[.agg #[.int .i64 t445, .int .i64 t446]] (by rfl) rfl rfl (by (try simp only [List.map_toArray, List.map_cons, List.map_nil]); first | done | rfl | (simp only [List.length_drop, List.length_take]; rfl)) ?_
                          with_reducible refine (impl_IsRatio.calls t445 t446 t457 _ A186.out).mono ?_
                          rintro e w191 ⟨rfl, hb⟩
                          refine ⟨_, rfl, ?_⟩
                          have n0_ := kB BK376 hb
                          have n1_ := kB BK390 hb
                          have n2_ := kB BK402 hb
                          have n3_ := kB BK419 hb
                          have n4_ := kB BK420 hb
                          have n5_ := kB BK435 hb
                          have n6_ := kB BK436 hb
                          have n7_ := kB BK447 hb
                          have n8_ := kB BK451 hb
                          have n9_ := kB BK455 hb
                          have n10_ := kH HB hb
                          clear BK376
                          clear BK390
                          clear BK402
                          clear BK419
                          clear BK420
                          clear BK435
                          clear BK436
                          clear BK447
                          clear BK451
                          clear BK455
                          clear HB
                          have BK376 := n0_
                          have BK390 := n1_
                          have BK402 := n2_
                          have BK419 := n3_
                          have BK420 := n4_
                          have BK435 := n5_
                          have BK436 := n6_
                          have BK447 := n7_
                          have BK451 := n8_
                          have BK455 := n9_
                          have HB := n10_
                          clear n0_ n1_ n2_ n3_ n4_ n5_ n6_ n7_ n8_ n9_ n10_
                          refine hK.out _ _ ⟨(blk_cell BK451.out 0).trans rfl, (blk_cell BK451.out 1).trans rfl, (blk_cell BK455.out 0).trans rfl, (blk_cell BK455.out 1).trans rfl, (blk_cell BK447.out 0).trans rfl, (blk_cell BK447.out 1).trans rfl⟩ (fun hHeld => ?_)
                          clear hK K
                          refine norm_ (a' := ?_) ?_ ?_
                          rotate_left
                          ·show Act.put _ (some 459) _ = _
                           simp only [Act.put, List.setIfInBounds_toArray, List.set_cons_zero, List.set_cons_succ, i64_w, i32_w]
                           rfl
                          refine one_ (i := 58) (N := some 461) #[true, true, true, true, true, true, true, true, true, true, true, true, true, true, true, true, true, true, true, true, true, true, true, true, true, true, true, true, true, true, true, true, true, true, true, true, true, true, true, true, true, true, true, true, true, true, true, true, true, true, true, true, true, true, true, true, true, true, true, false, false] rfl rfl (one_of HT_.out (by kernel_rfl)) (by decide) (fun K hK => ?_)
                          refine goes_ Try.func50 (by kernel_rfl) rfl #[.agg #[.int .i64 t445, .int .i64 t446]] (by rfl) rfl rfl (by (try simp only [List.map_toArray, List.map_cons, List.map_nil]); first | done | rfl | (simp only [List.length_drop, List.length_take]; rfl)) ?_
                          with_reducible refine (spec_IsRatio.calls t445 t446 t458 _ A187.out).mono ?_
                          rintro e w192 ⟨rfl, hb⟩
                          refine ⟨_, rfl, ?_⟩
                          have n0_ := kB BK376 hb
                          have n1_ := kB BK390 hb
                          have n2_ := kB BK402 hb
                          have n3_ := kB BK419 hb
                          have n4_ := kB BK420 hb
                          have n5_ := kB BK435 hb
                          have n6_ := kB BK436 hb
                          have n7_ := kB BK447 hb
                          have n8_ := kB BK451 hb
                          have n9_ := kB BK455 hb
                          have n10_ := kH HB hb
                          clear BK376
                          clear BK390
                          clear BK402
                          clear BK419
                          clear BK420
                          clear BK435
                          clear BK436
                          clear BK447
                          clear BK451
                          clear BK455
                          clear HB
                          have BK376 := n0_
                          have BK390 := n1_
                          have BK402 := n2_
                          have BK419 := n3_
                          have BK420 := n4_
                          have BK435 := n5_
                          have BK436 := n6_
                          have BK447 := n7_
                          have BK451 := n8_
                          have BK455 := n9_
                          have HB := n10_
                          clear n0_ n1_ n2_ n3_ n4_ n5_ n6_ n7_ n8_ n9_ n10_
                          refine hK.out _ _ ⟨(blk_cell BK451.out 0).trans rfl, (blk_cell BK451.out 1).trans rfl, (blk_cell BK455.out 0).trans rfl, (blk_cell BK455.out 1).trans rfl, (blk_cell BK447.out 0).trans rfl, (blk_cell BK447.out 1).trans rfl⟩ (fun hHeld => ?_)
                          clear hK K
                          refine norm_ (a' := ?_) ?_ ?_
                          rotate_left
                          ·show Act.put _ (some 461) _ = _
                           simp only [Act.put, List.setIfInBounds_toArray, List.set_cons_zero, List.set_cons_succ, i64_w, i32_w]
                           rfl
                          refine pure_ (i := 59) (N := some 462) (v := ?_) (a' := ?_) #[true, true, true, true, true, true, true, true, true, true, true, true, true, true, true, true, true, true, true, true, true, true, true, true, true, true, true, true, true, true, true, true, true, true, true, true, true, true, true, true, true, true, true, true, true, true, true, true, true, true, true, true, true, true, true, true, true, true, true, true, false] rfl rfl (any_of HT_.out (by kernel_rfl)) (fun _ _ _ h => h) (Or.inl ⟨by rfl, ?_⟩) ?_ ?_
                          rotate_left
                          ·intro w'
                           go_simp
                           with_reducible rfl
                          rotate_left
                          ·simp only [Act.put, List.setIfInBounds_toArray, List.set_cons_zero, List.set_cons_succ, i64_w, i32_w]
                           rfl
                          refine pure_ (i := 60) (N := some 463) (v := ?_) (a' := ?_) #[true, true, true, true, true, true, true, true, true, true, true, true, true, true, true, true, true, true, true, true, true, true, true, true, true, true, true, true, true, true, true, true, true, true, true, true, true, true, true, true, true, true, true, true, true, true, true, true, true, true, true, true, true, true, true, true, true, true, true, true, true] rfl rfl (any_of HT_.out (by kernel_rfl)) (fun _ _ _ h => h) (Or.inl ⟨by rfl, ?_⟩) ?_ ?_
                          rotate_left
                          ·intro w'
                           go_simp
                           with_reducible rfl
                          rotate_left
                          ·simp only [Act.put, List.setIfInBounds_toArray, List.set_cons_zero, List.set_cons_succ, i64_w, i32_w]
                           rfl
                          refine done_ (done_of HT_.out (by kernel_rfl)) ?_
                          try go_wp2
                          go_meet
                          case rel => exact ⟨_, ((t457 != t458)), (by first | rfl | (simp; done) | (simp [*]; done)), H', ⟨by have := HJ15.out; have := HJ54.out; have := HJ69.out; have := HJ81.out; first | omega | exact Nat.le_refl _⟩, kA, kA, kA, kA, kA, kA, kA, kA, kA, kA, kI⟩
                      ·rw [if_neg c181] at H
                       exact absurd H (by simp)
                     ·rw [if_neg c180] at H
                      exact absurd H (by simp)
                    ·rw [if_neg c179] at H
                     exact absurd H (by simp)
                  ·rw [if_neg c177] at H
                   exact absurd H (by simp)
                 ·rw [if_neg c176] at H
                  exact absurd H (by simp)
                ·rw [if_neg c175] at H
                 exact absurd H (by simp)
             case rest =>
              clear HC103
              try clear c1
              try clear c4
              obtain ⟨kq, x463_102, rfl, HA, HJ102, BK376, BK390, BK402, BK419, BK420, BK435, BK436, BK447, BK451, BK455, HB⟩ := hcut
              cases kq with
              | zero => exact absurd HA.out (by simp [laws_FnRatiosFound.j5])
              | succ kj102 =>
               have H := HA.out
               clear HA
               simp only [laws_FnRatiosFound.j5] at H
               by_cases c193 : x463_102 = true
               ·subst c193
                have H1 : (none) = some r := by rw [if_pos rfl] at H; exact H
                clear H
                have H := H1
                clear H1
                exact absurd H (by simp)
               ·replace c193 := Bool.eq_false_iff.mpr c193
                subst c193
                have H1 : (if t424 = true then (if t423 < 1 then (none) else (if (wrap64 (t421 * t415)) = (wrap64 (t422 * t414)) then (if (wrap64 ((wrap64 (t421 + (wrap64 (t418 * t423)))) * t417)) = (wrap64 ((wrap64 (t422 + (wrap64 (t418 * t423)))) * t416)) then (if t421 < 1 then (none) else (if t422 < 1 then (none) else (if (wrap64 (t421 + (wrap64 (t418 * t423)))) < 1 then (none) else (if (wrap64 (t422 + (wrap64 (t418 * t423)))) < 1 then (none) else ((laws_gThree.f kj102 t421 t422 t423).bind fun t459 => (laws_FnRatiosFound.j6 kj102 t433 t434 t437 t438 t439 t440 t450 (t459 != 1) t429 t430 t431 t432 t445 t446 t448 t449)))))) else (none)) else (none))) else (laws_FnRatiosFound.j6 kj102 t433 t434 t437 t438 t439 t440 t450 false t429 t430 t431 t432 t445 t446 t448 t449)) = some r := by rw [if_neg (show ¬ (false = true) by decide)] at H; exact H
                clear H
                have H := H1
                clear H1
                have HC194 := Aside0.mk H
                clear H
                go_upto_region 36 with (fail)
                go_cut [529] from 1 to 0 (fun v529 wc => ∃ (kq : Nat) (x529_193 : Bool), v529 = .bool x529_193 ∧ Aside0 (laws_FnRatiosFound.j6 kq t433 t434 t437 t438 t439 t440 t450 x529_193 t429 t430 t431 t432 t445 t446 t448 t449 = some r) ∧ Aside0 (kq ≤ kj102) ∧ Aside0 (wc.heap[gb376]? = some (.cells #[.int .i64 t374, .int .i64 t375] 43 (0, 0))) ∧ Aside0 (wc.heap[gb390]? = some (.cells #[.int .i64 t388, .int .i64 t389] 43 (0, 0))) ∧ Aside0 (wc.heap[gb402]? = some (.cells #[.int .i64 t400, .int .i64 t401] 43 (0, 0))) ∧ Aside0 (wc.heap[gb419]? = some (.cells #[.int .i64 t414, .int .i64 t415] 43 (0, 0))) ∧ Aside0 (wc.heap[gb420]? = some (.cells #[.int .i64 t416, .int .i64 t417] 43 (0, 0))) ∧ Aside0 (wc.heap[gb435]? = some (.cells #[.int .i64 t429, .int .i64 t430] 43 (0, 0))) ∧ Aside0 (wc.heap[gb436]? = some (.cells #[.int .i64 t431, .int .i64 t432] 43 (0, 0))) ∧ Aside0 (wc.heap[gb447]? = some (.cells #[.int .i64 t445, .int .i64 t446] 43 (0, 0))) ∧ Aside0 (wc.heap[gb451]? = some (.cells #[.int .i64 t448, .int .i64 t449] 43 (0, 0))) ∧ Aside0 (wc.heap[gb455]? = some (.cells #[.int .i64 t452, .int .i64 t453] 43 (0, 0))) ∧ Aside0 (Below w.heap.size w wc))
                case first =>
                 as_aux_lemma =>
                  try simp only [List.append]
                  have H := HC194.out
                  clear HC194
                  by_cases c195 : t424 = true
                  ·subst c195
                   have H1 : (if t423 < 1 then (none) else (if (wrap64 (t421 * t415)) = (wrap64 (t422 * t414)) then (if (wrap64 ((wrap64 (t421 + (wrap64 (t418 * t423)))) * t417)) = (wrap64 ((wrap64 (t422 + (wrap64 (t418 * t423)))) * t416)) then (if t421 < 1 then (none) else (if t422 < 1 then (none) else (if (wrap64 (t421 + (wrap64 (t418 * t423)))) < 1 then (none) else (if (wrap64 (t422 + (wrap64 (t418 * t423)))) < 1 then (none) else ((laws_gThree.f kj102 t421 t422 t423).bind fun t459 => (laws_FnRatiosFound.j6 kj102 t433 t434 t437 t438 t439 t440 t450 (t459 != 1) t429 t430 t431 t432 t445 t446 t448 t449)))))) else (none)) else (none))) = some r := by rw [if_pos rfl] at H; exact H
                   clear H
                   have H := H1
                   clear H1
                   by_cases c196 : t423 < 1
                   ·rw [if_pos c196] at H
                    exact absurd H (by simp)
                   ·rw [if_neg c196] at H
                    have c196b0 : decide (t423 < 1) = false := decide_eq_false c196
                    clear c196
                    (first | rw [c196b0] | (simp only [i64_w, i32_w]; rw [c196b0]) | skip)
                    by_cases c197 : (wrap64 (t421 * t415)) = (wrap64 (t422 * t414))
                    ·rw [if_pos c197] at H
                     have c197b0 : ((wrap64 (t421 * t415)) == (wrap64 (t422 * t414))) = true := beq_iff_eq.mpr c197
                     have c197b1 : ((wrap64 (t421 * t415)) != (wrap64 (t422 * t414))) = false := bne_eq_false_iff_eq.mpr c197
                     clear c197
                     by_cases c198 : (wrap64 ((wrap64 (t421 + (wrap64 (t418 * t423)))) * t417)) = (wrap64 ((wrap64 (t422 + (wrap64 (t418 * t423)))) * t416))
                     ·rw [if_pos c198] at H
                      have c198b0 : ((wrap64 ((wrap64 (t421 + (wrap64 (t418 * t423)))) * t417)) == (wrap64 ((wrap64 (t422 + (wrap64 (t418 * t423)))) * t416))) = true := beq_iff_eq.mpr c198
                      have c198b1 : ((wrap64 ((wrap64 (t421 + (wrap64 (t418 * t423)))) * t417)) != (wrap64 ((wrap64 (t422 + (wrap64 (t418 * t423)))) * t416))) = false := bne_eq_false_iff_eq.mpr c198
                      clear c198
                      by_cases c199 : t421 < 1
                      ·rw [if_pos c199] at H
                       exact absurd H (by simp)
                      ·rw [if_neg c199] at H
                       have c199b0 : decide (t421 < 1) = false := decide_eq_false c199
                       clear c199
                       by_cases c200 : t422 < 1
                       ·rw [if_pos c200] at H
                        exact absurd H (by simp)
                       ·rw [if_neg c200] at H
                        have c200b0 : decide (t422 < 1) = false := decide_eq_false c200
                        clear c200
                        by_cases c201 : (wrap64 (t421 + (wrap64 (t418 * t423)))) < 1
                        ·rw [if_pos c201] at H
                         exact absurd H (by simp)
                        ·rw [if_neg c201] at H
                         have c201b0 : decide ((wrap64 (t421 + (wrap64 (t418 * t423)))) < 1) = false := decide_eq_false c201
                         clear c201
                         by_cases c202 : (wrap64 (t422 + (wrap64 (t418 * t423)))) < 1
                         ·rw [if_pos c202] at H
                          exact absurd H (by simp)
                         ·rw [if_neg c202] at H
                          have c202b0 : decide ((wrap64 (t422 + (wrap64 (t418 * t423)))) < 1) = false := decide_eq_false c202
                          clear c202
                          replace H := Option.bind_eq_some_iff.mp H
                          obtain ⟨t459, A2030, H⟩ := H
                          replace H : (laws_FnRatiosFound.j6 kj102 t433 t434 t437 t438 t439 t440 t450 (t459 != 1) t429 t430 t431 t432 t445 t446 t448 t449) = some r := H
                          have A203 := Aside0.mk A2030
                          clear A2030
                          have H' := Aside0.mk H
                          clear H
                          have hnb204 := NB419_376.out
                          have hnc204 := NB376_419.out
                          have hnb205 := NB419_390.out
                          have hnc205 := NB390_419.out
                          have hnb206 := NB419_402.out
                          have hnc206 := NB402_419.out
                          have hnb207 := NB419_420.out
                          have hnc207 := NB420_419.out
                          have hnb208 := NB419_435.out
                          have hnc208 := NB435_419.out
                          have hnb209 := NB419_436.out
                          have hnc209 := NB436_419.out
                          have hnb210 := NB419_447.out
                          have hnc210 := NB447_419.out
                          have hnb211 := NB419_451.out
                          have hnc211 := NB451_419.out
                          have hnb212 := NB419_455.out
                          have hnc212 := NB455_419.out
                          have hcz213_0 : wc.cell? ⟨gb419, 0, none⟩ = some (.int .i64 t414) := (blk_cell BK419.out 0).trans rfl
                          have hcz213_1 : wc.cell? ⟨gb419, 1, none⟩ = some (.int .i64 t415) := (blk_cell BK419.out 1).trans rfl
                          have hfz213_0 := blk_frozen BK419.out 0
                          have hfz213_1 := blk_frozen BK419.out 1
                          have hnb214 := NB420_376.out
                          have hnc214 := NB376_420.out
                          have hnb215 := NB420_390.out
                          have hnc215 := NB390_420.out
                          have hnb216 := NB420_402.out
                          have hnc216 := NB402_420.out
                          have hnb217 := NB420_435.out
                          have hnc217 := NB435_420.out
                          have hnb218 := NB420_436.out
                          have hnc218 := NB436_420.out
                          have hnb219 := NB420_447.out
                          have hnc219 := NB447_420.out
                          have hnb220 := NB420_451.out
                          have hnc220 := NB451_420.out
                          have hnb221 := NB420_455.out
                          have hnc221 := NB455_420.out
                          have hcz222_0 : wc.cell? ⟨gb420, 0, none⟩ = some (.int .i64 t416) := (blk_cell BK420.out 0).trans rfl
                          have hcz222_1 : wc.cell? ⟨gb420, 1, none⟩ = some (.int .i64 t417) := (blk_cell BK420.out 1).trans rfl
                          have hfz222_0 := blk_frozen BK420.out 0
                          have hfz222_1 := blk_frozen BK420.out 1
                          go_wp2_with (first | (go_at_call 39; (with_reducible refine (laws_gThree.calls kj102 t421 t422 t423 t459 _ A203.out).mono ?_); rintro e w' ⟨rfl, ⟨nd, rfl⟩⟩))
                          go_meet
                          case rel => exact ⟨_, ((t459 != 1)), (by first | rfl | (simp; done) | (simp [*]; done)), H', ⟨by have := HJ15.out; have := HJ54.out; have := HJ69.out; have := HJ81.out; have := HJ102.out; first | omega | exact Nat.le_refl _⟩, kA, kA, kA, kA, kA, kA, kA, kA, kA, kA, kI⟩
                     ·rw [if_neg c198] at H
                      exact absurd H (by simp)
                    ·rw [if_neg c197] at H
                     exact absurd H (by simp)
                  ·replace c195 := Bool.eq_false_iff.mpr c195
                   subst c195
                   have H1 : (laws_FnRatiosFound.j6 kj102 t433 t434 t437 t438 t439 t440 t450 false t429 t430 t431 t432 t445 t446 t448 t449) = some r := by rw [if_neg (show ¬ (false = true) by decide)] at H; exact H
                   clear H
                   have H := H1
                   clear H1
                   have H' := Aside0.mk H
                   clear H
                   go_wp2
                   go_meet
                   case rel => exact ⟨_, (false), (by first | rfl | (simp; done) | (simp [*]; done)), H', ⟨by have := HJ15.out; have := HJ54.out; have := HJ69.out; have := HJ81.out; have := HJ102.out; first | omega | exact Nat.le_refl _⟩, kA, kA, kA, kA, kA, kA, kA, kA, kA, kA, kI⟩
                case rest =>
                 clear HC194
                 try clear c1
                 try clear c4
                 try clear c193
                 obtain ⟨kq, x529_193, rfl, HA, HJ193, BK376, BK390, BK402, BK419, BK420, BK435, BK436, BK447, BK451, BK455, HB⟩ := hcut
                 cases kq with
                 | zero => exact absurd HA.out (by simp [laws_FnRatiosFound.j6])
                 | succ kj193 =>
                  have H := HA.out
                  clear HA
                  simp only [laws_FnRatiosFound.j6] at H
                  by_cases c223 : x529_193 = true
                  ·subst c223
                   have H1 : (none) = some r := by rw [if_pos rfl] at H; exact H
                   clear H
                   have H := H1
                   clear H1
                   exact absurd H (by simp)
                  ·replace c223 := Bool.eq_false_iff.mpr c223
                   subst c223
                   have H1 : (if t440 = true then (if t439 < 1 then (none) else (if (wrap64 ((wrap64 (t437 - (wrap64 (t433 * t439)))) * t430)) = (wrap64 ((wrap64 (t438 - (wrap64 (t433 * t439)))) * t429)) then (if (wrap64 ((wrap64 (t437 + (wrap64 (t434 * t439)))) * t432)) = (wrap64 ((wrap64 (t438 + (wrap64 (t434 * t439)))) * t431)) then (if (wrap64 (t437 - (wrap64 (t433 * t439)))) < 1 then (none) else (if (wrap64 (t438 - (wrap64 (t433 * t439)))) < 1 then (none) else ((laws_gThree.f kj193 t437 t438 t439).bind fun t460 => (laws_FnRatiosFound.j7 kj193 t450 (t460 != 1) t445 t446 t448 t449)))) else (none)) else (none))) else (laws_FnRatiosFound.j7 kj193 t450 false t445 t446 t448 t449)) = some r := by rw [if_neg (show ¬ (false = true) by decide)] at H; exact H
                   clear H
                   have H := H1
                   clear H1
                   have HC224 := Aside0.mk H
                   clear H
                   go_upto_region 38 with (fail)
                   go_cut [595] from 1 to 0 (fun v595 wc => ∃ (kq : Nat) (x595_223 : Bool), v595 = .bool x595_223 ∧ Aside0 (laws_FnRatiosFound.j7 kq t450 x595_223 t445 t446 t448 t449 = some r) ∧ Aside0 (kq ≤ kj193) ∧ Aside0 (wc.heap[gb376]? = some (.cells #[.int .i64 t374, .int .i64 t375] 43 (0, 0))) ∧ Aside0 (wc.heap[gb390]? = some (.cells #[.int .i64 t388, .int .i64 t389] 43 (0, 0))) ∧ Aside0 (wc.heap[gb402]? = some (.cells #[.int .i64 t400, .int .i64 t401] 43 (0, 0))) ∧ Aside0 (wc.heap[gb419]? = some (.cells #[.int .i64 t414, .int .i64 t415] 43 (0, 0))) ∧ Aside0 (wc.heap[gb420]? = some (.cells #[.int .i64 t416, .int .i64 t417] 43 (0, 0))) ∧ Aside0 (wc.heap[gb435]? = some (.cells #[.int .i64 t429, .int .i64 t430] 43 (0, 0))) ∧ Aside0 (wc.heap[gb436]? = some (.cells #[.int .i64 t431, .int .i64 t432] 43 (0, 0))) ∧ Aside0 (wc.heap[gb447]? = some (.cells #[.int .i64 t445, .int .i64 t446] 43 (0, 0))) ∧ Aside0 (wc.heap[gb451]? = some (.cells #[.int .i64 t448, .int .i64 t449] 43 (0, 0))) ∧ Aside0 (wc.heap[gb455]? = some (.cells #[.int .i64 t452, .int .i64 t453] 43 (0, 0))) ∧ Aside0 (Below w.heap.size w wc))
                   case first =>
                    as_aux_lemma =>
                     try simp only [List.append]
                     have H := HC224.out
                     clear HC224
                     by_cases c225 : t440 = true
                     ·subst c225
                      have H1 : (if t439 < 1 then (none) else (if (wrap64 ((wrap64 (t437 - (wrap64 (t433 * t439)))) * t430)) = (wrap64 ((wrap64 (t438 - (wrap64 (t433 * t439)))) * t429)) then (if (wrap64 ((wrap64 (t437 + (wrap64 (t434 * t439)))) * t432)) = (wrap64 ((wrap64 (t438 + (wrap64 (t434 * t439)))) * t431)) then (if (wrap64 (t437 - (wrap64 (t433 * t439)))) < 1 then (none) else (if (wrap64 (t438 - (wrap64 (t433 * t439)))) < 1 then (none) else ((laws_gThree.f kj193 t437 t438 t439).bind fun t460 => (laws_FnRatiosFound.j7 kj193 t450 (t460 != 1) t445 t446 t448 t449)))) else (none)) else (none))) = some r := by rw [if_pos rfl] at H; exact H
                      clear H
                      have H := H1
                      clear H1
                      by_cases c226 : t439 < 1
                      ·rw [if_pos c226] at H
                       exact absurd H (by simp)
                      ·rw [if_neg c226] at H
                       have c226b0 : decide (t439 < 1) = false := decide_eq_false c226
                       clear c226
                       (first | rw [c226b0] | (simp only [i64_w, i32_w]; rw [c226b0]) | skip)
                       by_cases c227 : (wrap64 ((wrap64 (t437 - (wrap64 (t433 * t439)))) * t430)) = (wrap64 ((wrap64 (t438 - (wrap64 (t433 * t439)))) * t429))
                       ·rw [if_pos c227] at H
                        have c227b0 : ((wrap64 ((wrap64 (t437 - (wrap64 (t433 * t439)))) * t430)) == (wrap64 ((wrap64 (t438 - (wrap64 (t433 * t439)))) * t429))) = true := beq_iff_eq.mpr c227
                        have c227b1 : ((wrap64 ((wrap64 (t437 - (wrap64 (t433 * t439)))) * t430)) != (wrap64 ((wrap64 (t438 - (wrap64 (t433 * t439)))) * t429))) = false := bne_eq_false_iff_eq.mpr c227
                        clear c227
                        by_cases c228 : (wrap64 ((wrap64 (t437 + (wrap64 (t434 * t439)))) * t432)) = (wrap64 ((wrap64 (t438 + (wrap64 (t434 * t439)))) * t431))
                        ·rw [if_pos c228] at H
                         have c228b0 : ((wrap64 ((wrap64 (t437 + (wrap64 (t434 * t439)))) * t432)) == (wrap64 ((wrap64 (t438 + (wrap64 (t434 * t439)))) * t431))) = true := beq_iff_eq.mpr c228
                         have c228b1 : ((wrap64 ((wrap64 (t437 + (wrap64 (t434 * t439)))) * t432)) != (wrap64 ((wrap64 (t438 + (wrap64 (t434 * t439)))) * t431))) = false := bne_eq_false_iff_eq.mpr c228
                         clear c228
                         by_cases c229 : (wrap64 (t437 - (wrap64 (t433 * t439)))) < 1
                         ·rw [if_pos c229] at H
                          exact absurd H (by simp)
                         ·rw [if_neg c229] at H
                          have c229b0 : decide ((wrap64 (t437 - (wrap64 (t433 * t439)))) < 1) = false := decide_eq_false c229
                          clear c229
                          by_cases c230 : (wrap64 (t438 - (wrap64 (t433 * t439)))) < 1
                          ·rw [if_pos c230] at H
                           exact absurd H (by simp)
                          ·rw [if_neg c230] at H
                           have c230b0 : decide ((wrap64 (t438 - (wrap64 (t433 * t439)))) < 1) = false := decide_eq_false c230
                           clear c230
                           replace H := Option.bind_eq_some_iff.mp H
                           obtain ⟨t460, A2310, H⟩ := H
                           replace H : (laws_FnRatiosFound.j7 kj193 t450 (t460 != 1) t445 t446 t448 t449) = some r := H
                           have A231 := Aside0.mk A2310
                           clear A2310
                           have H' := Aside0.mk H
                           clear H
                           have hnb232 := NB435_376.out
                           have hnc232 := NB376_435.out
                           have hnb233 := NB435_390.out
                           have hnc233 := NB390_435.out
                           have hnb234 := NB435_402.out
                           have hnc234 := NB402_435.out
                           have hnb235 := NB435_419.out
                           have hnc235 := NB419_435.out
                           have hnb236 := NB435_420.out
                           have hnc236 := NB420_435.out
                           have hnb237 := NB435_436.out
                           have hnc237 := NB436_435.out
                           have hnb238 := NB435_447.out
                           have hnc238 := NB447_435.out
                           have hnb239 := NB435_451.out
                           have hnc239 := NB451_435.out
                           have hnb240 := NB435_455.out
                           have hnc240 := NB455_435.out
                           have hcz241_0 : wc.cell? ⟨gb435, 0, none⟩ = some (.int .i64 t429) := (blk_cell BK435.out 0).trans rfl
                           have hcz241_1 : wc.cell? ⟨gb435, 1, none⟩ = some (.int .i64 t430) := (blk_cell BK435.out 1).trans rfl
                           have hfz241_0 := blk_frozen BK435.out 0
                           have hfz241_1 := blk_frozen BK435.out 1
                           have hnb242 := NB436_376.out
                           have hnc242 := NB376_436.out
                           have hnb243 := NB436_390.out
                           have hnc243 := NB390_436.out
                           have hnb244 := NB436_402.out
                           have hnc244 := NB402_436.out
                           have hnb245 := NB436_419.out
                           have hnc245 := NB419_436.out
                           have hnb246 := NB436_420.out
                           have hnc246 := NB420_436.out
                           have hnb247 := NB436_447.out
                           have hnc247 := NB447_436.out
                           have hnb248 := NB436_451.out
                           have hnc248 := NB451_436.out
                           have hnb249 := NB436_455.out
                           have hnc249 := NB455_436.out
                           have hcz250_0 : wc.cell? ⟨gb436, 0, none⟩ = some (.int .i64 t431) := (blk_cell BK436.out 0).trans rfl
                           have hcz250_1 : wc.cell? ⟨gb436, 1, none⟩ = some (.int .i64 t432) := (blk_cell BK436.out 1).trans rfl
                           have hfz250_0 := blk_frozen BK436.out 0
                           have hfz250_1 := blk_frozen BK436.out 1
                           go_wp2_with (first | (go_at_call 39; (with_reducible refine (laws_gThree.calls kj193 t437 t438 t439 t460 _ A231.out).mono ?_); rintro e w' ⟨rfl, ⟨nd, rfl⟩⟩))
                           go_meet
                           case rel => exact ⟨_, ((t460 != 1)), (by first | rfl | (simp; done) | (simp [*]; done)), H', ⟨by have := HJ15.out; have := HJ54.out; have := HJ69.out; have := HJ81.out; have := HJ102.out; have := HJ193.out; first | omega | exact Nat.le_refl _⟩, kA, kA, kA, kA, kA, kA, kA, kA, kA, kA, kI⟩
                        ·rw [if_neg c228] at H
                         exact absurd H (by simp)
                       ·rw [if_neg c227] at H
                        exact absurd H (by simp)
                     ·replace c225 := Bool.eq_false_iff.mpr c225
                      subst c225
                      have H1 : (laws_FnRatiosFound.j7 kj193 t450 false t445 t446 t448 t449) = some r := by rw [if_neg (show ¬ (false = true) by decide)] at H; exact H
                      clear H
                      have H := H1
                      clear H1
                      have H' := Aside0.mk H
                      clear H
                      go_wp2
                      go_meet
                      case rel => exact ⟨_, (false), (by first | rfl | (simp; done) | (simp [*]; done)), H', ⟨by have := HJ15.out; have := HJ54.out; have := HJ69.out; have := HJ81.out; have := HJ102.out; have := HJ193.out; first | omega | exact Nat.le_refl _⟩, kA, kA, kA, kA, kA, kA, kA, kA, kA, kA, kI⟩
                   case rest =>
                    clear HC224
                    try clear c1
                    try clear c4
                    try clear c193
                    try clear c223
                    obtain ⟨kq, x595_223, rfl, HA, HJ223, BK376, BK390, BK402, BK419, BK420, BK435, BK436, BK447, BK451, BK455, HB⟩ := hcut
                    cases kq with
                    | zero => exact absurd HA.out (by simp [laws_FnRatiosFound.j7])
                    | succ kj223 =>
                     have H := HA.out
                     clear HA
                     simp only [laws_FnRatiosFound.j7] at H
                     by_cases c251 : x595_223 = true
                     ·subst c251
                      have H1 : (none) = some r := by rw [if_pos rfl] at H; exact H
                      clear H
                      have H := H1
                      clear H1
                      exact absurd H (by simp)
                     ·replace c251 := Bool.eq_false_iff.mpr c251
                      subst c251
                      have H1 : (if t450 = true then ((impl_TurnRatio.f t448 t449).bind fun bt461 => (if bt461.2.2 = true then (if (bt461.1 == t445 && (bt461.2.1 == t446)) = true then (some (t448 == t446)) else (none)) else (none))) else (some true)) = some r := by rw [if_neg (show ¬ (false = true) by decide)] at H; exact H
                      clear H
                      have H := H1
                      clear H1
                      by_cases c252 : t450 = true
                      ·subst c252
                       have H1 : ((impl_TurnRatio.f t448 t449).bind fun bt461 => (if bt461.2.2 = true then (if (bt461.1 == t445 && (bt461.2.1 == t446)) = true then (some (t448 == t446)) else (none)) else (none))) = some r := by rw [if_pos rfl] at H; exact H
                       clear H
                       have H := H1
                       clear H1
                       replace H := Option.bind_eq_some_iff.mp H
                       obtain ⟨⟨t461, t462, t463⟩, A2530, H⟩ := H
                       replace H : (if t463 = true then (if (t461 == t445 && (t462 == t446)) = true then (some (t448 == t446)) else (none)) else (none)) = some r := H
                       have A253 := Aside0.mk A2530
                       clear A2530
                       by_cases c254 : t463 = true
                       ·subst c254
                        have H1 : (if (t461 == t445 && (t462 == t446)) = true then (some (t448 == t446)) else (none)) = some r := by rw [if_pos rfl] at H; exact H
                        clear H
                        have H := H1
                        clear H1
                        by_cases c255 : (t461 == t445 && (t462 == t446)) = true
                        ·rw [if_pos c255] at H
                         have c255b0 : (t461 == t445 && (t462 == t446)) = true := c255
                         (try (have c255b1 : decide (t461 = t445 && (t462 == t446)) = true := by simpa using c255))
                         (try (have c255b2 : (t461 == t445 && (t462 == t446)) = true := by simpa using c255))
                         clear c255
                         obtain rfl := Option.some.inj H
                         have hnb256 := NB451_376.out
                         have hnc256 := NB376_451.out
                         have hnb257 := NB451_390.out
                         have hnc257 := NB390_451.out
                         have hnb258 := NB451_402.out
                         have hnc258 := NB402_451.out
                         have hnb259 := NB451_419.out
                         have hnc259 := NB419_451.out
                         have hnb260 := NB451_420.out
                         have hnc260 := NB420_451.out
                         have hnb261 := NB451_435.out
                         have hnc261 := NB435_451.out
                         have hnb262 := NB451_436.out
                         have hnc262 := NB436_451.out
                         have hnb263 := NB451_447.out
                         have hnc263 := NB447_451.out
                         have hnb264 := NB451_455.out
                         have hnc264 := NB455_451.out
                         have hcz265_0 : wc.cell? ⟨gb451, 0, none⟩ = some (.int .i64 t448) := (blk_cell BK451.out 0).trans rfl
                         have hcz265_1 : wc.cell? ⟨gb451, 1, none⟩ = some (.int .i64 t449) := (blk_cell BK451.out 1).trans rfl
                         have hfz265_0 := blk_frozen BK451.out 0
                         have hfz265_1 := blk_frozen BK451.out 1
                         go_wp2_with (first | ((with_reducible refine gate_callee (f := 47) rfl ?_); refine kE (some 599) Try.func47 #[.agg #[.int .i64 t448, .int .i64 t449]] rfl ?_; (with_reducible refine (impl_TurnRatio.calls t448 t449 t461 t462 true _ A253.out).mono ?_); rintro e w266 ⟨rfl, hb⟩; refine ⟨_, rfl, ?_⟩; have n0_ := kB BK376 hb; have n1_ := kB BK390 hb; have n2_ := kB BK402 hb; have n3_ := kB BK419 hb; have n4_ := kB BK420 hb; have n5_ := kB BK435 hb; have n6_ := kB BK436 hb; have n7_ := kB BK447 hb; have n8_ := kB BK451 hb; have n9_ := kB BK455 hb; have n10_ := kH HB hb; replace BK376 := n0_; replace BK390 := n1_; replace BK402 := n2_; replace BK419 := n3_; replace BK420 := n4_; replace BK435 := n5_; replace BK436 := n6_; replace BK447 := n7_; replace BK451 := n8_; replace BK455 := n9_; replace HB := n10_; clear n0_ n1_ n2_ n3_ n4_ n5_ n6_ n7_ n8_ n9_ n10_; (try clear hb)) | ((with_reducible refine gate_dst (N := 60) rfl ?_); refine box_event ?hg (N := 60) ?hd (cs := #[.int .i64 0, .int .i64 0]) (t := 43) ?hr ?_; (case hd => rfl); (case hg => rfl); (case hr => first | (go_simp; done) | (go_simp; rfl)); intro gb464 hg w267 hbox hb; have n0_ := kB BK376 hb; have n1_ := kB BK390 hb; have n2_ := kB BK402 hb; have n3_ := kB BK419 hb; have n4_ := kB BK420 hb; have n5_ := kB BK435 hb; have n6_ := kB BK436 hb; have n7_ := kB BK447 hb; have n8_ := kB BK451 hb; have n9_ := kB BK455 hb; have n10_ := kH HB hb; have n11_ := Aside0.mk (hbox); have n12_ := kG HB hg; have n13_ := kG HB hg; have n14_ := kL BK376 hg; have n15_ := kR BK376 hg; have n16_ := kL BK390 hg; have n17_ := kR BK390 hg; have n18_ := kL BK402 hg; have n19_ := kR BK402 hg; have n20_ := kL BK419 hg; have n21_ := kR BK419 hg; have n22_ := kL BK420 hg; have n23_ := kR BK420 hg; have n24_ := kL BK435 hg; have n25_ := kR BK435 hg; have n26_ := kL BK436 hg; have n27_ := kR BK436 hg; have n28_ := kL BK447 hg; have n29_ := kR BK447 hg; have n30_ := kL BK451 hg; have n31_ := kR BK451 hg; have n32_ := kL BK455 hg; have n33_ := kR BK455 hg; replace BK376 := n0_; replace BK390 := n1_; replace BK402 := n2_; replace BK419 := n3_; replace BK420 := n4_; replace BK435 := n5_; replace BK436 := n6_; replace BK447 := n7_; replace BK451 := n8_; replace BK455 := n9_; replace HB := n10_; have BK464 := n11_; have GW464 := n12_; have GE464 := n13_; have NB376_464 := n14_; have NB464_376 := n15_; have NB390_464 := n16_; have NB464_390 := n17_; have NB402_464 := n18_; have NB464_402 := n19_; have NB419_464 := n20_; have NB464_419 := n21_; have NB420_464 := n22_; have NB464_420 := n23_; have NB435_464 := n24_; have NB464_435 := n25_; have NB436_464 := n26_; have NB464_436 := n27_; have NB447_464 := n28_; have NB464_447 := n29_; have NB451_464 := n30_; have NB464_451 := n31_; have NB455_464 := n32_; have NB464_455 := n33_; clear n0_ n1_ n2_ n3_ n4_ n5_ n6_ n7_ n8_ n9_ n10_ n11_ n12_ n13_ n14_ n15_ n16_ n17_ n18_ n19_ n20_ n21_ n22_ n23_ n24_ n25_ n26_ n27_ n28_ n29_ n30_ n31_ n32_ n33_; clear hb hbox hg; have hnb268 := NB464_376.out; have hnc268 := NB376_464.out; have hnb269 := NB464_390.out; have hnc269 := NB390_464.out; have hnb270 := NB464_402.out; have hnc270 := NB402_464.out; have hnb271 := NB464_419.out; have hnc271 := NB419_464.out; have hnb272 := NB464_420.out; have hnc272 := NB420_464.out; have hnb273 := NB464_435.out; have hnc273 := NB435_464.out; have hnb274 := NB464_436.out; have hnc274 := NB436_464.out; have hnb275 := NB464_447.out; have hnc275 := NB447_464.out; have hnb276 := NB464_451.out; have hnc276 := NB451_464.out; have hnb277 := NB464_455.out; have hnc277 := NB455_464.out; have hcz278_0 : w267.cell? ⟨gb464, 0, none⟩ = some (.int .i64 0) := (blk_cell BK464.out 0).trans rfl; have hcz278_1 : w267.cell? ⟨gb464, 1, none⟩ = some (.int .i64 0) := (blk_cell BK464.out 1).trans rfl; have hfz278_0 := blk_frozen BK464.out 0; have hfz278_1 := blk_frozen BK464.out 1; have hnb279 := NB447_376.out; have hnc279 := NB376_447.out; have hnb280 := NB447_390.out; have hnc280 := NB390_447.out; have hnb281 := NB447_402.out; have hnc281 := NB402_447.out; have hnb282 := NB447_419.out; have hnc282 := NB419_447.out; have hnb283 := NB447_420.out; have hnc283 := NB420_447.out; have hnb284 := NB447_435.out; have hnc284 := NB435_447.out; have hnb285 := NB447_436.out; have hnc285 := NB436_447.out; have hnb286 := NB447_455.out; have hnc286 := NB455_447.out; have hcz287_0 : w267.cell? ⟨gb447, 0, none⟩ = some (.int .i64 t445) := (blk_cell BK447.out 0).trans rfl; have hcz287_1 : w267.cell? ⟨gb447, 1, none⟩ = some (.int .i64 t446) := (blk_cell BK447.out 1).trans rfl; have hfz287_0 := blk_frozen BK447.out 0; have hfz287_1 := blk_frozen BK447.out 1; have hcz288_0 : w267.cell? ⟨gb451, 0, none⟩ = some (.int .i64 t448) := (blk_cell BK451.out 0).trans rfl; have hcz288_1 : w267.cell? ⟨gb451, 1, none⟩ = some (.int .i64 t449) := (blk_cell BK451.out 1).trans rfl; have hfz288_0 := blk_frozen BK451.out 0; have hfz288_1 := blk_frozen BK451.out 1))
                         go_ret
                         exact ⟨by first | rfl | (simp [errW_none, errW_some] <;> rfl) | (simp [*, errW_none, errW_some] <;> rfl), kO⟩
                        ·rw [if_neg c255] at H
                         exact absurd H (by simp)
                       ·replace c254 := Bool.eq_false_iff.mpr c254
                        subst c254
                        have H1 : (none) = some r := by rw [if_neg (show ¬ (false = true) by decide)] at H; exact H
                        clear H
                        have H := H1
                        clear H1
                        exact absurd H (by simp)
                      ·replace c252 := Bool.eq_false_iff.mpr c252
                       subst c252
                       have H1 : (some true) = some r := by rw [if_neg (show ¬ (false = true) by decide)] at H; exact H
                       clear H
                       have H := H1
                       clear H1
                       obtain rfl := Option.some.inj H
                       go_wp2
                       go_ret
                       exact ⟨by first | rfl | (simp [errW_none, errW_some] <;> rfl) | (simp [*, errW_none, errW_some] <;> rfl), kO⟩

/-- THE ONE PURE STATEMENT of laws_FnRatiosFound: yours. -/
def laws_FnRatiosFound.Pure : Prop := ∀ (l0 : List Int) (l1 : List Int), l0.length ≤ maxLen → l0.length * 1 ≤ 140737488351232 → (∀ x ∈ l0, (Lit.int .u8 x).wf = true) → l1.length ≤ maxLen → l1.length * 1 ≤ 140737488351232 → (∀ x ∈ l1, (Lit.int .u8 x).wf = true) → ∃ k, laws_FnRatiosFound.f k l0 l1 = some true
theorem laws_FnRatiosFound.walk (P : laws_FnRatiosFound.Pure) (a0 : Option Addr) (len0 cap0 : Nat) (z0 : List Int) (a1 : Option Addr) (len1 cap1 : Nat) (z1 : List Int) (w : World) (w0 : (a0 = none ∧ len0 = 0 ∧ cap0 = 0 ∧ z0 = []) ∨ ∃ x, a0 = some x ∧ len0 ≤ cap0 ∧ cap0 ≤ maxLen ∧ z0.length = cap0 ∧ (∀ i, i < z0.length → w.cell? (x.add i) = some (.int .u8 (z0.getD i 0))) ∧ ∀ n ∈ z0, (Lit.int .u8 n).wf = true) (y0 : len0 * 1 ≤ 140737488351232) (w1 : (a1 = none ∧ len1 = 0 ∧ cap1 = 0 ∧ z1 = []) ∨ ∃ x, a1 = some x ∧ len1 ≤ cap1 ∧ cap1 ≤ maxLen ∧ z1.length = cap1 ∧ (∀ i, i < z1.length → w.cell? (x.add i) = some (.int .u8 (z1.getD i 0))) ∧ ∀ n ∈ z1, (Lit.int .u8 n).wf = true) (y1 : len1 * 1 ≤ 140737488351232) :
  Calls Try.prog 8 #[.slice a0 len0 cap0, .slice a1 len1 cap1] w fun e w' => e = .returned (.bool true) ∧ Below w.heap.size w w' := by
 obtain ⟨l0, rfl, hr0, hm0, hw0, hc0⟩ := ReadsInt.ofRowC w0
 obtain ⟨l1, rfl, hr1, hm1, hw1, hc1⟩ := ReadsInt.ofRowC w1
 obtain ⟨k, h⟩ := P l0 l1 hm0 y0 hw0 hm1 y1 hw1
 refine (laws_FnRatiosFound.calls k _ _ l0 _ _ l1 true w (Kd.C_of_reads (d := (0 : Int)) (h1 := fun _ => rfl) hr0) hc0 (Kd.C_of_reads (d := (0 : Int)) (h1 := fun _ => rfl) hr1) hc1 h).mono ?_
 rintro e w' ⟨rfl, hd⟩
 exact ⟨rfl, hd⟩

end Go.Proofs.Ytnbolemfldmohaa.P
