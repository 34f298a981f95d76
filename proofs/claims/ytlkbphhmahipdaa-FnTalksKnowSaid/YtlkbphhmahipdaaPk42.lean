/- Calls of the functions of the given program return what the plain Lean functions of the same names return; and a row of a law out of its pure statement. Written by a program of this session out of the translation; Lean checks it. No condition. -/
import Derived.Test.YtlkbphhmahipdaaPk0
import Derived.Test.YtlkbphhmahipdaaCu
import Derived.Test.YtlkbphhmahipdaaG2
import Derived.Test.YtlkbphhmahipdaaG3
import Derived.Test.YtlkbphhmahipdaaPk25
import Derived.Test.YtlkbphhmahipdaaG4
import Derived.Test.YtlkbphhmahipdaaG5
import Derived.Test.YtlkbphhmahipdaaG6
namespace Go.Proofs.Ytlkbphhmahipdaa.P
open Go.RowKit Go.Proofs.YtlkbphhmahipdaaW.PrintWords Go.Proofs.YtlkbphhmahipdaaW.PrintLast Go.Proofs.YtlkbphhmahipdaaW.PrintMore
attribute [local go_sem] max2_int min2_int max_two min_two max_three min_three max_four min_four   -- for this text's walks alone
set_option linter.unusedVariables false
set_option linter.unusedSimpArgs false

/-! ### laws_FnTalksKnow: function 9 -/
mutual
def laws_FnTalksKnow.j0 : Nat → List Int → Int → Int → Int → ByteArray → ByteArray → Bool → Int → Bool → Bool → Option (Bool)
 | 0, _, _, _, _, _, _, _, _, _, _ => none
 | k + 1, x1, x5, x6, x7, x8, x9, x10, x13, x14, x134 => if x134 = true then (none) else (if x10 = true then ((impl_IsTrueTalk.f x5 x6 x7 x9).bind fun bt314 => ((impl_LongestTalk.f x5 x8).bind fun bt316 => ((impl_IsTalk.f x9).bind fun t320 => (if t320 = true then (if bt314.2 = true then (if bt314.1 = true then (if (x9.size : Int) < 2 then (none) else (if 0 ≤ 1 then (if 1 ≤ (x9.size : Int) then (if (x9.extract 0 1).toList = x8.toList then (if x14 = true then (if bt316.2.2.2 = true then (if x13 < 1 then (none) else (laws_FnTalksKnow.j1 k x1 x5 x6 x7 x8 x9 x13 x14 bt316.1 bt316.2.1 bt316.2.2.1 bt316.2.2.2 (decide (x13 > bt316.2.2.1)))) else (none)) else (laws_FnTalksKnow.j1 k x1 x5 x6 x7 x8 x9 x13 x14 bt316.1 bt316.2.1 bt316.2.2.1 bt316.2.2.2 false)) else (none)) else (none)) else (none))) else (none)) else (none)) else (none))))) else (laws_FnTalksKnow.j4 k x1))
def laws_FnTalksKnow.j4 : Nat → List Int → Option (Bool)
 | 0, _ => none
 | k + 1, x1 => (spec_DrawLongestTalk.f x1).bind fun bt323 => ((impl_LongestTalk.f bt323.1 bt323.2).bind fun bt325 => ((spec_LongestTalk.f k bt323.1 bt323.2).bind fun bt329 => ((impl_CountNeverKnown.f bt323.1 bt323.2).bind fun bt333 => ((spec_CountNeverKnown.f k bt323.1 bt323.2).bind fun bt335 => ((spec_DrawLimitsOf.f k x1).bind fun bt337 => ((impl_LimitsOf.f k bt337.1 bt337.2.1 bt337.2.2).bind fun bt340 => ((spec_LimitsOf.f k bt337.1 bt337.2.1 bt337.2.2).bind fun bt344 => ((impl_LeastLimit.f k bt337.1 bt337.2.1 bt337.2.2).bind fun bt348 => ((spec_LeastLimit.f k bt337.1 bt337.2.1 bt337.2.2).bind fun bt350 => ((spec_DrawIsTrueTalk.f k x1).bind fun bt352 => ((impl_IsTrueTalk.f bt352.1 bt352.2.1 bt352.2.2.1 bt352.2.2.2).bind fun bt356 => ((spec_IsTrueTalk.f k bt352.1 bt352.2.1 bt352.2.2.1 bt352.2.2.2).bind fun bt358 => (if (bt325.2.2.2 != bt329.2.2.2) = true then (none) else (if bt325.1 = bt329.1 then (if bt325.2.1 = bt329.2.1 then (if bt325.2.2.1 = bt329.2.2.1 then (if (bt333.2 != bt335.2) = true then (none) else (if bt333.1 = bt335.1 then (if (bt340.2 != bt344.2) = true then (none) else ((laws_gSame.f k bt340.1 bt344.1).bind fun t360 => (if t360 = true then (if (bt348.2 != bt350.2) = true then (none) else (if bt348.1 = bt350.1 then (if (bt356.2 != bt358.2) = true then (none) else (if (bt356.1 != bt358.1) = true then (none) else (if bt340.2 = true then (if (bt348.2 != (decide ((bt340.1.length : Int) > 0))) = true then (none) else (if bt325.2.2.2 = true then (laws_FnTalksKnow.j5 k bt323.1 bt323.2 bt325.2.2.2 bt333.1 bt333.2 bt337.1 bt337.2.1 bt337.2.2 bt340.1 bt348.1 bt348.2 (!bt333.2)) else (laws_FnTalksKnow.j5 k bt323.1 bt323.2 bt325.2.2.2 bt333.1 bt333.2 bt337.1 bt337.2.1 bt337.2.2 bt340.1 bt348.1 bt348.2 false))) else (if (bt348.2 != false) = true then (none) else (if bt325.2.2.2 = true then (laws_FnTalksKnow.j5 k bt323.1 bt323.2 bt325.2.2.2 bt333.1 bt333.2 bt337.1 bt337.2.1 bt337.2.2 bt340.1 bt348.1 bt348.2 (!bt333.2)) else (laws_FnTalksKnow.j5 k bt323.1 bt323.2 bt325.2.2.2 bt333.1 bt333.2 bt337.1 bt337.2.1 bt337.2.2 bt340.1 bt348.1 bt348.2 false)))))) else (none))) else (none)))) else (none))) else (none)) else (none)) else (none)))))))))))))))
def laws_FnTalksKnow.j5 : Nat → Int → ByteArray → Bool → Int → Bool → Int → Int → ByteArray → List Int → Int → Bool → Bool → Option (Bool)
 | 0, _, _, _, _, _, _, _, _, _, _, _, _ => none
 | k + 1, x27, x28, x32, x37, x38, x41, x42, x43, x44, x48, x49, x474 => if x474 = true then (none) else (if x38 = true then (if x37 < 0 then (none) else (if x37 > (wrap64 (Int.tdiv (wrap64 (x27 * (wrap64 (x27 + 1)))) 2)) then (none) else (laws_FnTalksKnow.j6 k x27 x28 x37 x41 x42 x43 x44 x48 x49 (x32 != (decide (x37 < (wrap64 (Int.tdiv (wrap64 (x27 * (wrap64 (x27 + 1)))) 2)))))))) else (laws_FnTalksKnow.j9 k x41 x42 x43 x44 x48 x49))
def laws_FnTalksKnow.j9 : Nat → Int → Int → ByteArray → List Int → Int → Bool → Option (Bool)
 | 0, _, _, _, _, _, _ => none
 | k + 1, x41, x42, x43, x44, x48, x49 => if x49 = true then ((laws_gRises.f k x44).bind fun t363 => (if t363 = true then (if 0 < (x44.length : Int) then (laws_FnTalksKnow.j10 k x41 x42 x43 x44 ((rd x44 0) != x48)) else (none)) else (none))) else (some true)
def laws_FnTalksKnow.j10 : Nat → Int → Int → ByteArray → List Int → Bool → Option (Bool)
 | 0, _, _, _, _, _ => none
 | k + 1, x41, x42, x43, x44, x535 => if x535 = true then (none) else (laws_FnTalksKnow.l3 k x41 x42 x43 x44 2)
def laws_FnTalksKnow.l3 : Nat → Int → Int → ByteArray → List Int → Int → Option (Bool)
 | 0, _, _, _, _, _ => none
 | k + 1, x41, x42, x43, x44, x65 => if x65 ≤ 40 then (laws_FnTalksKnow.j12 k x41 x42 x43 x44 x65 (decide (x65 ≤ 16))) else (laws_FnTalksKnow.j12 k x41 x42 x43 x44 x65 false)
def laws_FnTalksKnow.j12 : Nat → Int → Int → ByteArray → List Int → Int → Bool → Option (Bool)
 | 0, _, _, _, _, _, _ => none
 | k + 1, x41, x42, x43, x44, x65, x541 => if x541 = true then (if x65 < x42 then ((laws_gHas.f k x44 x65).bind fun t365 => (if t365 = true then (none) else (laws_FnTalksKnow.l3 k x41 x42 x43 x44 (wrap64 (x65 + 1))))) else ((impl_IsTrueTalk.f x65 x41 x42 x43).bind fun bt366 => (if bt366.2 = true then ((laws_gHas.f k x44 x65).bind fun t368 => (if (bt366.1 != t368) = true then (none) else (laws_FnTalksKnow.l3 k x41 x42 x43 x44 (wrap64 (x65 + 1))))) else (none)))) else (some true)
def laws_FnTalksKnow.j6 : Nat → Int → ByteArray → Int → Int → Int → ByteArray → List Int → Int → Bool → Bool → Option (Bool)
 | 0, _, _, _, _, _, _, _, _, _, _ => none
 | k + 1, x27, x28, x37, x41, x42, x43, x44, x48, x49, x497 => if x497 = true then (none) else (if x27 ≤ 6 then (laws_FnTalksKnow.l1 k x27 x28 x37 x41 x42 x43 x44 x48 x49 0 1) else (laws_FnTalksKnow.j9 k x41 x42 x43 x44 x48 x49))
def laws_FnTalksKnow.l1 : Nat → Int → ByteArray → Int → Int → Int → ByteArray → List Int → Int → Bool → Int → Int → Option (Bool)
 | 0, _, _, _, _, _, _, _, _, _, _, _ => none
 | k + 1, x27, x28, x37, x41, x42, x43, x44, x48, x49, x60, x61 => if x61 ≤ x27 then (laws_FnTalksKnow.l2 k x27 x28 x37 x41 x42 x43 x44 x48 x49 x60 x61 1) else (if x60 = x37 then (laws_FnTalksKnow.j9 k x41 x42 x43 x44 x48 x49) else (none))
def laws_FnTalksKnow.l2 : Nat → Int → ByteArray → Int → Int → Int → ByteArray → List Int → Int → Bool → Int → Int → Int → Option (Bool)
 | 0, _, _, _, _, _, _, _, _, _, _, _, _ => none
 | k + 1, x27, x28, x37, x41, x42, x43, x44, x48, x49, x60, x61, x62 => if x62 ≤ x61 then ((impl_KnownAfter.f x27 x62 x61 x28).bind fun bt361 => (if bt361.2 = true then (laws_FnTalksKnow.l2 k x27 x28 x37 x41 x42 x43 x44 x48 x49 x60 x61 (wrap64 (x62 + 1))) else (laws_FnTalksKnow.l2 k x27 x28 x37 x41 x42 x43 x44 x48 x49 (wrap64 (x60 + 1)) x61 (wrap64 (x62 + 1))))) else (laws_FnTalksKnow.l1 k x27 x28 x37 x41 x42 x43 x44 x48 x49 x60 (wrap64 (x61 + 1)))
def laws_FnTalksKnow.j1 : Nat → List Int → Int → Int → Int → ByteArray → ByteArray → Int → Bool → Int → Int → Int → Bool → Bool → Option (Bool)
 | 0, _, _, _, _, _, _, _, _, _, _, _, _, _ => none
 | k + 1, x1, x5, x6, x7, x8, x9, x13, x14, x19, x20, x21, x22, x192 => if x192 = true then (none) else (laws_FnTalksKnow.l0 k x1 x5 x6 x7 x8 x9 x13 x14 x19 x20 x21 x22 0)
def laws_FnTalksKnow.l0 : Nat → List Int → Int → Int → Int → ByteArray → ByteArray → Int → Bool → Int → Int → Int → Bool → Int → Option (Bool)
 | 0, _, _, _, _, _, _, _, _, _, _, _, _, _ => none
 | k + 1, x1, x5, x6, x7, x8, x9, x13, x14, x19, x20, x21, x22, x23 => if x23 < (x9.size : Int) then (if 0 ≤ (wrap64 (x23 + 1)) then (if (wrap64 (x23 + 1)) < (x9.size : Int) then (if x14 = true then (if (((bt x9 (wrap64 (x23 + 1))) == 43) != (x13 == (wrap64 ((wrap64 (Int.tdiv x23 2)) + 1)))) = true then (none) else (if (bt x9 (wrap64 (x23 + 1))) = 43 then (if (wrap64 (x23 + 2)) = (x9.size : Int) then (if x23 > 0 then (if 0 ≤ x23 then (if 0 ≤ (wrap64 (x23 - 2)) then (if (wrap64 (x23 - 2)) < (x9.size : Int) then (if (bt x9 x23) = (bt x9 (wrap64 (x23 - 2))) then (none) else (if (bt x9 (wrap64 (x23 + 1))) = 33 then (none) else (laws_FnTalksKnow.l0 k x1 x5 x6 x7 x8 x9 x13 x14 x19 x20 x21 x22 (wrap64 (x23 + 2))))) else (none)) else (none)) else (none)) else (if (bt x9 (wrap64 (x23 + 1))) = 33 then (none) else (laws_FnTalksKnow.l0 k x1 x5 x6 x7 x8 x9 x13 x14 x19 x20 x21 x22 (wrap64 (x23 + 2))))) else (none)) else (if x23 > 0 then (if 0 ≤ x23 then (if 0 ≤ (wrap64 (x23 - 2)) then (if (wrap64 (x23 - 2)) < (x9.size : Int) then (if (bt x9 x23) = (bt x9 (wrap64 (x23 - 2))) then (none) else (if (bt x9 (wrap64 (x23 + 1))) = 33 then (none) else (laws_FnTalksKnow.l0 k x1 x5 x6 x7 x8 x9 x13 x14 x19 x20 x21 x22 (wrap64 (x23 + 2))))) else (none)) else (none)) else (none)) else (if (bt x9 (wrap64 (x23 + 1))) = 33 then (none) else (laws_FnTalksKnow.l0 k x1 x5 x6 x7 x8 x9 x13 x14 x19 x20 x21 x22 (wrap64 (x23 + 2))))))) else (if (((bt x9 (wrap64 (x23 + 1))) == 43) != false) = true then (none) else (if (bt x9 (wrap64 (x23 + 1))) = 43 then (if (wrap64 (x23 + 2)) = (x9.size : Int) then (if x23 > 0 then (if 0 ≤ x23 then (if 0 ≤ (wrap64 (x23 - 2)) then (if (wrap64 (x23 - 2)) < (x9.size : Int) then (if (bt x9 x23) = (bt x9 (wrap64 (x23 - 2))) then (none) else (if (bt x9 (wrap64 (x23 + 1))) = 33 then (none) else (laws_FnTalksKnow.l0 k x1 x5 x6 x7 x8 x9 x13 x14 x19 x20 x21 x22 (wrap64 (x23 + 2))))) else (none)) else (none)) else (none)) else (if (bt x9 (wrap64 (x23 + 1))) = 33 then (none) else (laws_FnTalksKnow.l0 k x1 x5 x6 x7 x8 x9 x13 x14 x19 x20 x21 x22 (wrap64 (x23 + 2))))) else (none)) else (if x23 > 0 then (if 0 ≤ x23 then (if 0 ≤ (wrap64 (x23 - 2)) then (if (wrap64 (x23 - 2)) < (x9.size : Int) then (if (bt x9 x23) = (bt x9 (wrap64 (x23 - 2))) then (none) else (if (bt x9 (wrap64 (x23 + 1))) = 33 then (none) else (laws_FnTalksKnow.l0 k x1 x5 x6 x7 x8 x9 x13 x14 x19 x20 x21 x22 (wrap64 (x23 + 2))))) else (none)) else (none)) else (none)) else (if (bt x9 (wrap64 (x23 + 1))) = 33 then (none) else (laws_FnTalksKnow.l0 k x1 x5 x6 x7 x8 x9 x13 x14 x19 x20 x21 x22 (wrap64 (x23 + 2)))))))) else (none)) else (none)) else (if x14 = true then (if x13 > 12 then (if (x9.size : Int) = 24 then (if x13 ≤ 12 then (laws_FnTalksKnow.j3 k x1 x5 x6 x7 x8 x13 x14 x19 x20 x21 x22 ((x9.size : Int) != (wrap64 (2 * x13)))) else (laws_FnTalksKnow.j3 k x1 x5 x6 x7 x8 x13 x14 x19 x20 x21 x22 false)) else (none)) else (if x13 ≤ 12 then (laws_FnTalksKnow.j3 k x1 x5 x6 x7 x8 x13 x14 x19 x20 x21 x22 ((x9.size : Int) != (wrap64 (2 * x13)))) else (laws_FnTalksKnow.j3 k x1 x5 x6 x7 x8 x13 x14 x19 x20 x21 x22 false))) else (if (x9.size : Int) = 24 then (laws_FnTalksKnow.j3 k x1 x5 x6 x7 x8 x13 x14 x19 x20 x21 x22 false) else (none)))
def laws_FnTalksKnow.j3 : Nat → List Int → Int → Int → Int → ByteArray → Int → Bool → Int → Int → Int → Bool → Bool → Option (Bool)
 | 0, _, _, _, _, _, _, _, _, _, _, _, _ => none
 | k + 1, x1, x5, x6, x7, x8, x13, x14, x19, x20, x21, x22, x269 => if x269 = true then (none) else (if x22 = true then ((impl_KnownAfter.f x5 x19 x20 x8).bind fun bt321 => (if bt321.2 = true then (if bt321.1 = x21 then (if x14 = true then (if x13 = x21 then (if x6 < x19 then (none) else (if x6 = x19 then (if x7 < x20 then (none) else (laws_FnTalksKnow.j4 k x1)) else (laws_FnTalksKnow.j4 k x1))) else (laws_FnTalksKnow.j4 k x1)) else (laws_FnTalksKnow.j4 k x1)) else (none)) else (none))) else (laws_FnTalksKnow.j4 k x1))
end
def laws_FnTalksKnow.f (k : Nat) (l0 : List Int) (l1 : List Int) : Option (Bool) := (laws_big.f l0 l1).bind fun t301 => (if t301 = true then (some true) else ((spec_DrawTrueTalk.f l0).bind fun bt302 => ((impl_TrueTalk.f bt302.1 bt302.2.1 bt302.2.2.1 bt302.2.2.2).bind fun bt306 => ((spec_TrueTalk.f bt302.1 bt302.2.1 bt302.2.2.1 bt302.2.2.2).bind fun bt308 => ((impl_KnownAfter.f bt302.1 bt302.2.1 bt302.2.2.1 bt302.2.2.2).bind fun bt310 => ((spec_KnownAfter.f bt302.1 bt302.2.1 bt302.2.2.1 bt302.2.2.2).bind fun bt312 => (if (bt306.2 != bt308.2) = true then (none) else (if bt306.1.toList = bt308.1.toList then (if (bt310.2 != bt312.2) = true then (none) else (if bt310.1 = bt312.1 then (if bt310.2 = true then (laws_FnTalksKnow.j0 k l1 bt302.1 bt302.2.1 bt302.2.2.1 bt302.2.2.2 bt306.1 bt306.2 bt310.1 bt310.2 (!bt306.2)) else (laws_FnTalksKnow.j0 k l1 bt302.1 bt302.2.1 bt302.2.2.1 bt302.2.2.2 bt306.1 bt306.2 bt310.1 bt310.2 false)) else (none))) else (none)))))))))
theorem laws_FnTalksKnow.ite_l (c : Prop) [Decidable c] (X : Option Bool) (r : Bool) : ((if c then X else none) = some r) ↔ c ∧ X = some r := by
  by_cases h : c <;> simp [h]
theorem laws_FnTalksKnow.ite_r (c : Prop) [Decidable c] (X : Option Bool) (r : Bool) : ((if c then none else X) = some r) ↔ ¬ c ∧ X = some r := by
  by_cases h : c <;> simp [h]
set_option maxHeartbeats 4000000 in
theorem laws_FnTalksKnow.l0_round (S a x jq j44 j55 j2 b44 b55 b23 : Int) (one : Bool) (Z : Option Bool) (r : Bool) (H : (if 0 ≤ j44 then (if j44 < S then (if one = true then (if ((b44 == 43) != (a == jq)) = true then (none) else (if b44 = 43 then (if j2 = S then (if x > 0 then (if 0 ≤ x then (if 0 ≤ j55 then (if j55 < S then (if b23 = b55 then (none) else (if b44 = 33 then (none) else (Z))) else (none)) else (none)) else (none)) else (if b44 = 33 then (none) else (Z))) else (none)) else (if x > 0 then (if 0 ≤ x then (if 0 ≤ j55 then (if j55 < S then (if b23 = b55 then (none) else (if b44 = 33 then (none) else (Z))) else (none)) else (none)) else (none)) else (if b44 = 33 then (none) else (Z))))) else (if ((b44 == 43) != false) = true then (none) else (if b44 = 43 then (if j2 = S then (if x > 0 then (if 0 ≤ x then (if 0 ≤ j55 then (if j55 < S then (if b23 = b55 then (none) else (if b44 = 33 then (none) else (Z))) else (none)) else (none)) else (none)) else (if b44 = 33 then (none) else (Z))) else (none)) else (if x > 0 then (if 0 ≤ x then (if 0 ≤ j55 then (if j55 < S then (if b23 = b55 then (none) else (if b44 = 33 then (none) else (Z))) else (none)) else (none)) else (none)) else (if b44 = 33 then (none) else (Z)))))) else (none)) else (none)) = some r) :
    (0 ≤ j44 ∧ j44 < S) ∧ b44 ≠ 33 ∧ (one = true → (b44 == 43) = (a == jq)) ∧ (one = false → b44 ≠ 43) ∧ (b44 = 43 → j2 = S) ∧ (0 < x → 0 ≤ x ∧ (0 ≤ j55 ∧ j55 < S) ∧ b23 ≠ b55) ∧ Z = some r := by
  obtain ⟨h1, H⟩ := (laws_FnTalksKnow.ite_l _ _ _).1 H
  obtain ⟨h2, H⟩ := (laws_FnTalksKnow.ite_l _ _ _).1 H
  refine ⟨⟨h1, h2⟩, ?_⟩
  have L := fun c [Decidable c] X => laws_FnTalksKnow.ite_l c X r
  have R := fun c [Decidable c] X => laws_FnTalksKnow.ite_r c X r
  have e0 : ¬ (false = true) := by decide
  cases one with
  | false =>
    by_cases hb : b44 = 43
    · exfalso
      subst hb
      simp only [if_neg e0] at H
      exact (R _ _ |>.1 H).1 (by decide)
    · by_cases hx : x > 0
      · simp only [if_neg e0, if_neg hb, if_pos hx, L, R] at H
        refine ⟨?_, ?_, ?_, ?_, ?_, ?_⟩ <;> first | (simp_all; done) | (intro h; omega)
      · simp only [if_neg e0, if_neg hb, if_neg hx, L, R] at H
        refine ⟨?_, ?_, ?_, ?_, ?_, ?_⟩ <;> first | (simp_all; done) | (intro h; omega)
  | true =>
    by_cases hb : b44 = 43
    · by_cases hx : x > 0
      · simp only [if_pos rfl, if_pos hb, if_pos hx, L, R] at H
        refine ⟨?_, ?_, ?_, ?_, ?_, ?_⟩ <;> first | (simp_all; done) | (intro h; omega)
      · simp only [if_pos rfl, if_pos hb, if_neg hx, L, R] at H
        refine ⟨?_, ?_, ?_, ?_, ?_, ?_⟩ <;> first | (simp_all; done) | (intro h; omega)
    · by_cases hx : x > 0
      · simp only [if_pos rfl, if_neg hb, if_pos hx, L, R] at H
        refine ⟨?_, ?_, ?_, ?_, ?_, ?_⟩ <;> first | (simp_all; done) | (intro h; omega)
      · simp only [if_pos rfl, if_neg hb, if_neg hx, L, R] at H
        refine ⟨?_, ?_, ?_, ?_, ?_, ?_⟩ <;> first | (simp_all; done) | (intro h; omega)
set_option maxHeartbeats 40000000 in
set_option maxRecDepth 100000 in
theorem laws_FnTalksKnow.calls (k : Nat) (A0 : Option Addr) (c0 : Nat) (l0 : List Int) (A1 : Option Addr) (c1 : Nat) (l1 : List Int) (r : Bool) (w : World) (hr0 : Kd.C (Kd.int .u8) w A0 l0.length l0) (hc0 : l0.length ≤ c0) (hr1 : Kd.C (Kd.int .u8) w A1 l1.length l1) (hc1 : l1.length ≤ c1) (h : laws_FnTalksKnow.f k l0 l1 = some r) :
  Calls Try.prog 9 #[.slice A0 l0.length c0, .slice A1 l1.length c1] w fun e w' => e = .returned (.bool r) ∧ Below w.heap.size w w' := by
 have HR0 := Aside0.mk hr0
 have HC0 := Aside0.mk hc0
 clear hr0 hc0
 have HR1 := Aside0.mk hr1
 have HC1 := Aside0.mk hc1
 clear hr1 hc1
 have HB := Aside0.mk (Below.refl w.heap.size w)
 have H : ((laws_big.f l0 l1).bind fun t301 => (if t301 = true then (some true) else ((spec_DrawTrueTalk.f l0).bind fun bt302 => ((impl_TrueTalk.f bt302.1 bt302.2.1 bt302.2.2.1 bt302.2.2.2).bind fun bt306 => ((spec_TrueTalk.f bt302.1 bt302.2.1 bt302.2.2.1 bt302.2.2.2).bind fun bt308 => ((impl_KnownAfter.f bt302.1 bt302.2.1 bt302.2.2.1 bt302.2.2.2).bind fun bt310 => ((spec_KnownAfter.f bt302.1 bt302.2.1 bt302.2.2.1 bt302.2.2.2).bind fun bt312 => (if (bt306.2 != bt308.2) = true then (none) else (if bt306.1.toList = bt308.1.toList then (if (bt310.2 != bt312.2) = true then (none) else (if bt310.1 = bt312.1 then (if bt310.2 = true then (laws_FnTalksKnow.j0 k l1 bt302.1 bt302.2.1 bt302.2.2.1 bt302.2.2.2 bt306.1 bt306.2 bt310.1 bt310.2 (!bt306.2)) else (laws_FnTalksKnow.j0 k l1 bt302.1 bt302.2.1 bt302.2.2.1 bt302.2.2.2 bt306.1 bt306.2 bt310.1 bt310.2 false)) else (none))) else (none)))))))))) = some r := h
 clear h
 replace H := Option.bind_eq_some_iff.mp H
 obtain ⟨t301, A30, H⟩ := H
 replace H : (if t301 = true then (some true) else ((spec_DrawTrueTalk.f l0).bind fun bt302 => ((impl_TrueTalk.f bt302.1 bt302.2.1 bt302.2.2.1 bt302.2.2.2).bind fun bt306 => ((spec_TrueTalk.f bt302.1 bt302.2.1 bt302.2.2.1 bt302.2.2.2).bind fun bt308 => ((impl_KnownAfter.f bt302.1 bt302.2.1 bt302.2.2.1 bt302.2.2.2).bind fun bt310 => ((spec_KnownAfter.f bt302.1 bt302.2.1 bt302.2.2.1 bt302.2.2.2).bind fun bt312 => (if (bt306.2 != bt308.2) = true then (none) else (if bt306.1.toList = bt308.1.toList then (if (bt310.2 != bt312.2) = true then (none) else (if bt310.1 = bt312.1 then (if bt310.2 = true then (laws_FnTalksKnow.j0 k l1 bt302.1 bt302.2.1 bt302.2.2.1 bt302.2.2.2 bt306.1 bt306.2 bt310.1 bt310.2 (!bt306.2)) else (laws_FnTalksKnow.j0 k l1 bt302.1 bt302.2.1 bt302.2.2.1 bt302.2.2.2 bt306.1 bt306.2 bt310.1 bt310.2 false)) else (none))) else (none))))))))) = some r := H
 have A3 := Aside0.mk A30
 clear A30
 by_cases c4 : t301 = true
 ·subst c4
  have H1 : (some true) = some r := by rw [if_pos rfl] at H; exact H
  clear H
  have H := H1
  clear H1
  obtain rfl := Option.some.inj H
  go_enter Try.func9, Try.ntmps9
  go_wp2_with (first | (go_at_call 32; (with_reducible refine (laws_big.calls _ _ l0 _ _ l1 true _ ?side1 ?side2 ?side3 ?side4 A3.out).mono ?_); (case side1 => repeat (first | exact HR0.out | (with_reducible refine Kd.C_alloc ?_ _) | (with_reducible refine Kd.C_drewN ?_ _) | (with_reducible refine Kd.C_drew ?_))); (case side2 => exact HC0.out); (case side3 => repeat (first | exact HR1.out | (with_reducible refine Kd.C_alloc ?_ _) | (with_reducible refine Kd.C_drewN ?_ _) | (with_reducible refine Kd.C_drew ?_))); (case side4 => exact HC1.out); rintro e w' ⟨rfl, ⟨nd, rfl⟩⟩; (try first | exact ⟨rfl, _, World.drewN_drewN _ _ _⟩ | exact ⟨rfl, _, Eq.trans (World.drewN_drewN _ _ _) (congrArg (World.drewN _) (Nat.add_assoc _ _ _))⟩)))
  repeat (go_quiet (first | (go_at_call 32; (with_reducible refine (laws_big.calls _ _ l0 _ _ l1 true _ ?side1 ?side2 ?side3 ?side4 A3.out).mono ?_); (case side1 => repeat (first | exact HR0.out | (with_reducible refine Kd.C_alloc ?_ _) | (with_reducible refine Kd.C_drewN ?_ _) | (with_reducible refine Kd.C_drew ?_))); (case side2 => exact HC0.out); (case side3 => repeat (first | exact HR1.out | (with_reducible refine Kd.C_alloc ?_ _) | (with_reducible refine Kd.C_drewN ?_ _) | (with_reducible refine Kd.C_drew ?_))); (case side4 => exact HC1.out); rintro e w' ⟨rfl, ⟨nd, rfl⟩⟩; (try first | exact ⟨rfl, _, World.drewN_drewN _ _ _⟩ | exact ⟨rfl, _, Eq.trans (World.drewN_drewN _ _ _) (congrArg (World.drewN _) (Nat.add_assoc _ _ _))⟩))); try go_wp2_with (first | (go_at_call 32; (with_reducible refine (laws_big.calls _ _ l0 _ _ l1 true _ ?side1 ?side2 ?side3 ?side4 A3.out).mono ?_); (case side1 => repeat (first | exact HR0.out | (with_reducible refine Kd.C_alloc ?_ _) | (with_reducible refine Kd.C_drewN ?_ _) | (with_reducible refine Kd.C_drew ?_))); (case side2 => exact HC0.out); (case side3 => repeat (first | exact HR1.out | (with_reducible refine Kd.C_alloc ?_ _) | (with_reducible refine Kd.C_drewN ?_ _) | (with_reducible refine Kd.C_drew ?_))); (case side4 => exact HC1.out); rintro e w' ⟨rfl, ⟨nd, rfl⟩⟩; (try first | exact ⟨rfl, _, World.drewN_drewN _ _ _⟩ | exact ⟨rfl, _, Eq.trans (World.drewN_drewN _ _ _) (congrArg (World.drewN _) (Nat.add_assoc _ _ _))⟩))))
  go_ret
  exact ⟨by first | rfl | (simp [errW_none, errW_some] <;> rfl) | (simp [*, errW_none, errW_some] <;> rfl), kO⟩
 ·replace c4 := Bool.eq_false_iff.mpr c4
  subst c4
  have H1 : ((spec_DrawTrueTalk.f l0).bind fun bt302 => ((impl_TrueTalk.f bt302.1 bt302.2.1 bt302.2.2.1 bt302.2.2.2).bind fun bt306 => ((spec_TrueTalk.f bt302.1 bt302.2.1 bt302.2.2.1 bt302.2.2.2).bind fun bt308 => ((impl_KnownAfter.f bt302.1 bt302.2.1 bt302.2.2.1 bt302.2.2.2).bind fun bt310 => ((spec_KnownAfter.f bt302.1 bt302.2.1 bt302.2.2.1 bt302.2.2.2).bind fun bt312 => (if (bt306.2 != bt308.2) = true then (none) else (if bt306.1.toList = bt308.1.toList then (if (bt310.2 != bt312.2) = true then (none) else (if bt310.1 = bt312.1 then (if bt310.2 = true then (laws_FnTalksKnow.j0 k l1 bt302.1 bt302.2.1 bt302.2.2.1 bt302.2.2.2 bt306.1 bt306.2 bt310.1 bt310.2 (!bt306.2)) else (laws_FnTalksKnow.j0 k l1 bt302.1 bt302.2.1 bt302.2.2.1 bt302.2.2.2 bt306.1 bt306.2 bt310.1 bt310.2 false)) else (none))) else (none)))))))) = some r := by rw [if_neg (show ¬ (false = true) by decide)] at H; exact H
  clear H
  have H := H1
  clear H1
  replace H := Option.bind_eq_some_iff.mp H
  obtain ⟨⟨t302, t303, t304, t305⟩, A50, H⟩ := H
  replace H : ((impl_TrueTalk.f t302 t303 t304 t305).bind fun bt306 => ((spec_TrueTalk.f t302 t303 t304 t305).bind fun bt308 => ((impl_KnownAfter.f t302 t303 t304 t305).bind fun bt310 => ((spec_KnownAfter.f t302 t303 t304 t305).bind fun bt312 => (if (bt306.2 != bt308.2) = true then (none) else (if bt306.1.toList = bt308.1.toList then (if (bt310.2 != bt312.2) = true then (none) else (if bt310.1 = bt312.1 then (if bt310.2 = true then (laws_FnTalksKnow.j0 k l1 t302 t303 t304 t305 bt306.1 bt306.2 bt310.1 bt310.2 (!bt306.2)) else (laws_FnTalksKnow.j0 k l1 t302 t303 t304 t305 bt306.1 bt306.2 bt310.1 bt310.2 false)) else (none))) else (none))))))) = some r := H
  have A5 := Aside0.mk A50
  clear A50
  replace H := Option.bind_eq_some_iff.mp H
  obtain ⟨⟨t306, t307⟩, A60, H⟩ := H
  replace H : ((spec_TrueTalk.f t302 t303 t304 t305).bind fun bt308 => ((impl_KnownAfter.f t302 t303 t304 t305).bind fun bt310 => ((spec_KnownAfter.f t302 t303 t304 t305).bind fun bt312 => (if (t307 != bt308.2) = true then (none) else (if t306.toList = bt308.1.toList then (if (bt310.2 != bt312.2) = true then (none) else (if bt310.1 = bt312.1 then (if bt310.2 = true then (laws_FnTalksKnow.j0 k l1 t302 t303 t304 t305 t306 t307 bt310.1 bt310.2 (!t307)) else (laws_FnTalksKnow.j0 k l1 t302 t303 t304 t305 t306 t307 bt310.1 bt310.2 false)) else (none))) else (none)))))) = some r := H
  have A6 := Aside0.mk A60
  clear A60
  replace H := Option.bind_eq_some_iff.mp H
  obtain ⟨⟨t308, t309⟩, A70, H⟩ := H
  replace H : ((impl_KnownAfter.f t302 t303 t304 t305).bind fun bt310 => ((spec_KnownAfter.f t302 t303 t304 t305).bind fun bt312 => (if (t307 != t309) = true then (none) else (if t306.toList = t308.toList then (if (bt310.2 != bt312.2) = true then (none) else (if bt310.1 = bt312.1 then (if bt310.2 = true then (laws_FnTalksKnow.j0 k l1 t302 t303 t304 t305 t306 t307 bt310.1 bt310.2 (!t307)) else (laws_FnTalksKnow.j0 k l1 t302 t303 t304 t305 t306 t307 bt310.1 bt310.2 false)) else (none))) else (none))))) = some r := H
  have A7 := Aside0.mk A70
  clear A70
  replace H := Option.bind_eq_some_iff.mp H
  obtain ⟨⟨t310, t311⟩, A80, H⟩ := H
  replace H : ((spec_KnownAfter.f t302 t303 t304 t305).bind fun bt312 => (if (t307 != t309) = true then (none) else (if t306.toList = t308.toList then (if (t311 != bt312.2) = true then (none) else (if t310 = bt312.1 then (if t311 = true then (laws_FnTalksKnow.j0 k l1 t302 t303 t304 t305 t306 t307 t310 t311 (!t307)) else (laws_FnTalksKnow.j0 k l1 t302 t303 t304 t305 t306 t307 t310 t311 false)) else (none))) else (none)))) = some r := H
  have A8 := Aside0.mk A80
  clear A80
  replace H := Option.bind_eq_some_iff.mp H
  obtain ⟨⟨t312, t313⟩, A90, H⟩ := H
  replace H : (if (t307 != t309) = true then (none) else (if t306.toList = t308.toList then (if (t311 != t313) = true then (none) else (if t310 = t312 then (if t311 = true then (laws_FnTalksKnow.j0 k l1 t302 t303 t304 t305 t306 t307 t310 t311 (!t307)) else (laws_FnTalksKnow.j0 k l1 t302 t303 t304 t305 t306 t307 t310 t311 false)) else (none))) else (none))) = some r := H
  have A9 := Aside0.mk A90
  clear A90
  have HC10 := Aside0.mk H
  clear H
  go_enter Try.func9, Try.ntmps9
  go_upto_region 8 with (first | (go_at_call 32; (with_reducible refine (laws_big.calls _ _ l0 _ _ l1 false _ ?side1 ?side2 ?side3 ?side4 A3.out).mono ?_); (case side1 => repeat (first | exact HR0.out | (with_reducible refine Kd.C_alloc ?_ _) | (with_reducible refine Kd.C_drewN ?_ _) | (with_reducible refine Kd.C_drew ?_))); (case side2 => exact HC0.out); (case side3 => repeat (first | exact HR1.out | (with_reducible refine Kd.C_alloc ?_ _) | (with_reducible refine Kd.C_drewN ?_ _) | (with_reducible refine Kd.C_drew ?_))); (case side4 => exact HC1.out); rintro e w' ⟨rfl, ⟨nd, rfl⟩⟩; (try first | exact ⟨rfl, _, World.drewN_drewN _ _ _⟩ | exact ⟨rfl, _, Eq.trans (World.drewN_drewN _ _ _) (congrArg (World.drewN _) (Nat.add_assoc _ _ _))⟩)) | (go_at_call 33; (with_reducible refine (spec_DrawTrueTalk.calls _ _ l0 t302 t303 t304 t305 _ ?side1 ?side2 A5.out).mono ?_); (case side1 => repeat (first | exact HR0.out | (with_reducible refine Kd.C_alloc ?_ _) | (with_reducible refine Kd.C_drewN ?_ _) | (with_reducible refine Kd.C_drew ?_))); (case side2 => exact HC0.out); rintro e w11 ⟨rfl, hb⟩; have n0_ := kH HB hb; replace HB := n0_; clear n0_; (try clear hb)) | (go_at_call 34; (with_reducible refine (impl_TrueTalk.calls t302 t303 t304 t305 t306 t307 _ A6.out).mono ?_); rintro e w12 ⟨rfl, hb⟩; have n0_ := kH HB hb; replace HB := n0_; clear n0_; (try clear hb)) | (go_at_call 35; (with_reducible refine (spec_TrueTalk.calls t302 t303 t304 t305 t308 t309 _ A7.out).mono ?_); rintro e w13 ⟨rfl, hb⟩; have n0_ := kH HB hb; replace HB := n0_; clear n0_; (try clear hb)) | (go_at_call 36; (with_reducible refine (impl_KnownAfter.calls t302 t303 t304 t305 t310 t311 _ A8.out).mono ?_); rintro e w14 ⟨rfl, hb⟩; have n0_ := kH HB hb; replace HB := n0_; clear n0_; (try clear hb)) | (go_at_call 37; (with_reducible refine (spec_KnownAfter.calls t302 t303 t304 t305 t312 t313 _ A9.out).mono ?_); rintro e w15 ⟨rfl, hb⟩; have n0_ := kH HB hb; replace HB := n0_; clear n0_; (try clear hb)))
  repeat (go_quiet (first | (go_at_call 32; (with_reducible refine (laws_big.calls _ _ l0 _ _ l1 false _ ?side1 ?side2 ?side3 ?side4 A3.out).mono ?_); (case side1 => repeat (first | exact HR0.out | (with_reducible refine Kd.C_alloc ?_ _) | (with_reducible refine Kd.C_drewN ?_ _) | (with_reducible refine Kd.C_drew ?_))); (case side2 => exact HC0.out); (case side3 => repeat (first | exact HR1.out | (with_reducible refine Kd.C_alloc ?_ _) | (with_reducible refine Kd.C_drewN ?_ _) | (with_reducible refine Kd.C_drew ?_))); (case side4 => exact HC1.out); rintro e w' ⟨rfl, ⟨nd, rfl⟩⟩; (try first | exact ⟨rfl, _, World.drewN_drewN _ _ _⟩ | exact ⟨rfl, _, Eq.trans (World.drewN_drewN _ _ _) (congrArg (World.drewN _) (Nat.add_assoc _ _ _))⟩)) | (go_at_call 33; (with_reducible refine (spec_DrawTrueTalk.calls _ _ l0 t302 t303 t304 t305 _ ?side1 ?side2 A5.out).mono ?_); (case side1 => repeat (first | exact HR0.out | (with_reducible refine Kd.C_alloc ?_ _) | (with_reducible refine Kd.C_drewN ?_ _) | (with_reducible refine Kd.C_drew ?_))); (case side2 => exact HC0.out); rintro e w11 ⟨rfl, hb⟩; have n0_ := kH HB hb; replace HB := n0_; clear n0_; (try clear hb)) | (go_at_call 34; (with_reducible refine (impl_TrueTalk.calls t302 t303 t304 t305 t306 t307 _ A6.out).mono ?_); rintro e w12 ⟨rfl, hb⟩; have n0_ := kH HB hb; replace HB := n0_; clear n0_; (try clear hb)) | (go_at_call 35; (with_reducible refine (spec_TrueTalk.calls t302 t303 t304 t305 t308 t309 _ A7.out).mono ?_); rintro e w13 ⟨rfl, hb⟩; have n0_ := kH HB hb; replace HB := n0_; clear n0_; (try clear hb)) | (go_at_call 36; (with_reducible refine (impl_KnownAfter.calls t302 t303 t304 t305 t310 t311 _ A8.out).mono ?_); rintro e w14 ⟨rfl, hb⟩; have n0_ := kH HB hb; replace HB := n0_; clear n0_; (try clear hb)) | (go_at_call 37; (with_reducible refine (spec_KnownAfter.calls t302 t303 t304 t305 t312 t313 _ A9.out).mono ?_); rintro e w15 ⟨rfl, hb⟩; have n0_ := kH HB hb; replace HB := n0_; clear n0_; (try clear hb))); go_upto_region 8 with (first | (go_at_call 32; (with_reducible refine (laws_big.calls _ _ l0 _ _ l1 false _ ?side1 ?side2 ?side3 ?side4 A3.out).mono ?_); (case side1 => repeat (first | exact HR0.out | (with_reducible refine Kd.C_alloc ?_ _) | (with_reducible refine Kd.C_drewN ?_ _) | (with_reducible refine Kd.C_drew ?_))); (case side2 => exact HC0.out); (case side3 => repeat (first | exact HR1.out | (with_reducible refine Kd.C_alloc ?_ _) | (with_reducible refine Kd.C_drewN ?_ _) | (with_reducible refine Kd.C_drew ?_))); (case side4 => exact HC1.out); rintro e w' ⟨rfl, ⟨nd, rfl⟩⟩; (try first | exact ⟨rfl, _, World.drewN_drewN _ _ _⟩ | exact ⟨rfl, _, Eq.trans (World.drewN_drewN _ _ _) (congrArg (World.drewN _) (Nat.add_assoc _ _ _))⟩)) | (go_at_call 33; (with_reducible refine (spec_DrawTrueTalk.calls _ _ l0 t302 t303 t304 t305 _ ?side1 ?side2 A5.out).mono ?_); (case side1 => repeat (first | exact HR0.out | (with_reducible refine Kd.C_alloc ?_ _) | (with_reducible refine Kd.C_drewN ?_ _) | (with_reducible refine Kd.C_drew ?_))); (case side2 => exact HC0.out); rintro e w11 ⟨rfl, hb⟩; have n0_ := kH HB hb; replace HB := n0_; clear n0_; (try clear hb)) | (go_at_call 34; (with_reducible refine (impl_TrueTalk.calls t302 t303 t304 t305 t306 t307 _ A6.out).mono ?_); rintro e w12 ⟨rfl, hb⟩; have n0_ := kH HB hb; replace HB := n0_; clear n0_; (try clear hb)) | (go_at_call 35; (with_reducible refine (spec_TrueTalk.calls t302 t303 t304 t305 t308 t309 _ A7.out).mono ?_); rintro e w13 ⟨rfl, hb⟩; have n0_ := kH HB hb; replace HB := n0_; clear n0_; (try clear hb)) | (go_at_call 36; (with_reducible refine (impl_KnownAfter.calls t302 t303 t304 t305 t310 t311 _ A8.out).mono ?_); rintro e w14 ⟨rfl, hb⟩; have n0_ := kH HB hb; replace HB := n0_; clear n0_; (try clear hb)) | (go_at_call 37; (with_reducible refine (spec_KnownAfter.calls t302 t303 t304 t305 t312 t313 _ A9.out).mono ?_); rintro e w15 ⟨rfl, hb⟩; have n0_ := kH HB hb; replace HB := n0_; clear n0_; (try clear hb))))
  (try simp only [Act.put, List.setIfInBounds_toArray, List.set_cons_zero, List.set_cons_succ])
  go_cut [134] from 1 to 0 (fun v134 wc => ∃ (kq : Nat) (x134_9 : Bool), v134 = .bool x134_9 ∧ Aside0 (laws_FnTalksKnow.j0 kq l1 t302 t303 t304 t305 t306 t307 t310 t311 x134_9 = some r) ∧ Aside0 (kq ≤ k) ∧ Aside0 (Below w.heap.size w wc))
  case first =>
   as_aux_lemma =>
    have H := HC10.out
    clear HC10
    by_cases c16 : (t307 != t309) = true
    ·rw [if_pos c16] at H
     exact absurd H (by simp)
    ·rw [if_neg c16] at H
     have c16b0 : (t307 != t309) = false := by simpa using c16
     (try (have c16b1 : decide (t307 = t309) = true := by simpa using c16))
     (try (have c16b2 : (t307 == t309) = true := by simpa using c16))
     clear c16
     (first | rw [c16b0] | (simp only [i64_w, i32_w]; rw [c16b0]) | skip)
     by_cases c17 : t306.toList = t308.toList
     ·rw [if_pos c17] at H
      have c17b0 : (t306.toList == t308.toList) = true := beq_iff_eq.mpr c17
      have c17b1 : (t306.toList != t308.toList) = false := bne_eq_false_iff_eq.mpr c17
      clear c17
      by_cases c18 : (t311 != t313) = true
      ·rw [if_pos c18] at H
       exact absurd H (by simp)
      ·rw [if_neg c18] at H
       have c18b0 : (t311 != t313) = false := by simpa using c18
       (try (have c18b1 : decide (t311 = t313) = true := by simpa using c18))
       (try (have c18b2 : (t311 == t313) = true := by simpa using c18))
       clear c18
       by_cases c19 : t310 = t312
       ·rw [if_pos c19] at H
        have c19b0 : (t310 == t312) = true := beq_iff_eq.mpr c19
        have c19b1 : (t310 != t312) = false := bne_eq_false_iff_eq.mpr c19
        clear c19
        by_cases c20 : t311 = true
        ·subst c20
         have H1 : (laws_FnTalksKnow.j0 k l1 t302 t303 t304 t305 t306 t307 t310 true (!t307)) = some r := by rw [if_pos rfl] at H; exact H
         clear H
         have H := H1
         clear H1
         have H' := Aside0.mk H
         clear H
         go_wp2
         repeat (go_quiet (fail); try go_wp2)
         go_meet
         case rel => exact ⟨_, (!t307), (by first | rfl | (simp; done) | (simp [*]; done)), H', ⟨by first | omega | exact Nat.le_refl _⟩, kI⟩
        ·replace c20 := Bool.eq_false_iff.mpr c20
         subst c20
         have H1 : (laws_FnTalksKnow.j0 k l1 t302 t303 t304 t305 t306 t307 t310 false false) = some r := by rw [if_neg (show ¬ (false = true) by decide)] at H; exact H
         clear H
         have H := H1
         clear H1
         have H' := Aside0.mk H
         clear H
         go_wp2
         repeat (go_quiet (fail); try go_wp2)
         go_meet
         case rel => exact ⟨_, (false), (by first | rfl | (simp; done) | (simp [*]; done)), H', ⟨by first | omega | exact Nat.le_refl _⟩, kI⟩
       ·rw [if_neg c19] at H
        exact absurd H (by simp)
     ·rw [if_neg c17] at H
      exact absurd H (by simp)
  case rest =>
   clear HC10
   try clear c1
   try clear c4
   obtain ⟨kq, x134_9, rfl, HA, HJ9, HB⟩ := hcut
   cases kq with
   | zero => exact absurd HA.out (by simp [laws_FnTalksKnow.j0])
   | succ kj9 =>
    have H := HA.out
    clear HA
    simp only [laws_FnTalksKnow.j0] at H
    by_cases c21 : x134_9 = true
    ·subst c21
     have H1 : (none) = some r := by rw [if_pos rfl] at H; exact H
     clear H
     have H := H1
     clear H1
     exact absurd H (by simp)
    ·replace c21 := Bool.eq_false_iff.mpr c21
     subst c21
     have H1 : (if t307 = true then ((impl_IsTrueTalk.f t302 t303 t304 t306).bind fun bt314 => ((impl_LongestTalk.f t302 t305).bind fun bt316 => ((impl_IsTalk.f t306).bind fun t320 => (if t320 = true then (if bt314.2 = true then (if bt314.1 = true then (if (t306.size : Int) < 2 then (none) else (if 0 ≤ 1 then (if 1 ≤ (t306.size : Int) then (if (t306.extract 0 1).toList = t305.toList then (if t311 = true then (if bt316.2.2.2 = true then (if t310 < 1 then (none) else (laws_FnTalksKnow.j1 kj9 l1 t302 t303 t304 t305 t306 t310 t311 bt316.1 bt316.2.1 bt316.2.2.1 bt316.2.2.2 (decide (t310 > bt316.2.2.1)))) else (none)) else (laws_FnTalksKnow.j1 kj9 l1 t302 t303 t304 t305 t306 t310 t311 bt316.1 bt316.2.1 bt316.2.2.1 bt316.2.2.2 false)) else (none)) else (none)) else (none))) else (none)) else (none)) else (none))))) else (laws_FnTalksKnow.j4 kj9 l1)) = some r := by rw [if_neg (show ¬ (false = true) by decide)] at H; exact H
     clear H
     have H := H1
     clear H1
     have HC22 := Aside0.mk H
     clear H
     go_upto_if 135 with (fail)
     repeat (go_quiet (fail); go_upto_if 135 with (fail))
     go_cut [] from 135 to 135 (fun wc => ∃ (kq : Nat), Aside0 (laws_FnTalksKnow.j4 kq l1 = some r) ∧ Aside0 (kq ≤ kj9) ∧ Aside0 (Below w.heap.size w wc))
     case first =>
      as_aux_lemma =>
       have H := HC22.out
       clear HC22
       by_cases c23 : t307 = true
       ·subst c23
        have H1 : ((impl_IsTrueTalk.f t302 t303 t304 t306).bind fun bt314 => ((impl_LongestTalk.f t302 t305).bind fun bt316 => ((impl_IsTalk.f t306).bind fun t320 => (if t320 = true then (if bt314.2 = true then (if bt314.1 = true then (if (t306.size : Int) < 2 then (none) else (if 0 ≤ 1 then (if 1 ≤ (t306.size : Int) then (if (t306.extract 0 1).toList = t305.toList then (if t311 = true then (if bt316.2.2.2 = true then (if t310 < 1 then (none) else (laws_FnTalksKnow.j1 kj9 l1 t302 t303 t304 t305 t306 t310 t311 bt316.1 bt316.2.1 bt316.2.2.1 bt316.2.2.2 (decide (t310 > bt316.2.2.1)))) else (none)) else (laws_FnTalksKnow.j1 kj9 l1 t302 t303 t304 t305 t306 t310 t311 bt316.1 bt316.2.1 bt316.2.2.1 bt316.2.2.2 false)) else (none)) else (none)) else (none))) else (none)) else (none)) else (none))))) = some r := by rw [if_pos rfl] at H; exact H
        clear H
        have H := H1
        clear H1
        replace H := Option.bind_eq_some_iff.mp H
        obtain ⟨⟨t314, t315⟩, A240, H⟩ := H
        replace H : ((impl_LongestTalk.f t302 t305).bind fun bt316 => ((impl_IsTalk.f t306).bind fun t320 => (if t320 = true then (if t315 = true then (if t314 = true then (if (t306.size : Int) < 2 then (none) else (if 0 ≤ 1 then (if 1 ≤ (t306.size : Int) then (if (t306.extract 0 1).toList = t305.toList then (if t311 = true then (if bt316.2.2.2 = true then (if t310 < 1 then (none) else (laws_FnTalksKnow.j1 kj9 l1 t302 t303 t304 t305 t306 t310 t311 bt316.1 bt316.2.1 bt316.2.2.1 bt316.2.2.2 (decide (t310 > bt316.2.2.1)))) else (none)) else (laws_FnTalksKnow.j1 kj9 l1 t302 t303 t304 t305 t306 t310 t311 bt316.1 bt316.2.1 bt316.2.2.1 bt316.2.2.2 false)) else (none)) else (none)) else (none))) else (none)) else (none)) else (none)))) = some r := H
        have A24 := Aside0.mk A240
        clear A240
        replace H := Option.bind_eq_some_iff.mp H
        obtain ⟨⟨t316, t317, t318, t319⟩, A250, H⟩ := H
        replace H : ((impl_IsTalk.f t306).bind fun t320 => (if t320 = true then (if t315 = true then (if t314 = true then (if (t306.size : Int) < 2 then (none) else (if 0 ≤ 1 then (if 1 ≤ (t306.size : Int) then (if (t306.extract 0 1).toList = t305.toList then (if t311 = true then (if t319 = true then (if t310 < 1 then (none) else (laws_FnTalksKnow.j1 kj9 l1 t302 t303 t304 t305 t306 t310 t311 t316 t317 t318 t319 (decide (t310 > t318)))) else (none)) else (laws_FnTalksKnow.j1 kj9 l1 t302 t303 t304 t305 t306 t310 t311 t316 t317 t318 t319 false)) else (none)) else (none)) else (none))) else (none)) else (none)) else (none))) = some r := H
        have A25 := Aside0.mk A250
        clear A250
        have HC26 := Aside0.mk H
        clear H
        go_upto_region 13 with (first | (go_at_call 38; (with_reducible refine (impl_IsTrueTalk.calls t302 t303 t304 t306 t314 t315 _ A24.out).mono ?_); rintro e w27 ⟨rfl, hb⟩; have n0_ := kH HB hb; replace HB := n0_; clear n0_; (try clear hb)) | (go_at_call 39; (with_reducible refine (impl_LongestTalk.calls t302 t305 t316 t317 t318 t319 _ A25.out).mono ?_); rintro e w28 ⟨rfl, hb⟩; have n0_ := kH HB hb; replace HB := n0_; clear n0_; (try clear hb)))
        repeat (go_quiet (first | (go_at_call 38; (with_reducible refine (impl_IsTrueTalk.calls t302 t303 t304 t306 t314 t315 _ A24.out).mono ?_); rintro e w27 ⟨rfl, hb⟩; have n0_ := kH HB hb; replace HB := n0_; clear n0_; (try clear hb)) | (go_at_call 39; (with_reducible refine (impl_LongestTalk.calls t302 t305 t316 t317 t318 t319 _ A25.out).mono ?_); rintro e w28 ⟨rfl, hb⟩; have n0_ := kH HB hb; replace HB := n0_; clear n0_; (try clear hb))); go_upto_region 13 with (first | (go_at_call 38; (with_reducible refine (impl_IsTrueTalk.calls t302 t303 t304 t306 t314 t315 _ A24.out).mono ?_); rintro e w27 ⟨rfl, hb⟩; have n0_ := kH HB hb; replace HB := n0_; clear n0_; (try clear hb)) | (go_at_call 39; (with_reducible refine (impl_LongestTalk.calls t302 t305 t316 t317 t318 t319 _ A25.out).mono ?_); rintro e w28 ⟨rfl, hb⟩; have n0_ := kH HB hb; replace HB := n0_; clear n0_; (try clear hb))))
        (try simp only [Act.put, List.setIfInBounds_toArray, List.set_cons_zero, List.set_cons_succ])
        go_cut [192] from 1 to 0 (fun v192 wc => ∃ (kq : Nat) (x192_25 : Bool), v192 = .bool x192_25 ∧ Aside0 (laws_FnTalksKnow.j1 kq l1 t302 t303 t304 t305 t306 t310 t311 t316 t317 t318 t319 x192_25 = some r) ∧ Aside0 (kq ≤ kj9) ∧ Aside0 (Below w.heap.size w wc))
        case first =>
         as_aux_lemma =>
          try simp only [List.append]
          have H := HC26.out
          clear HC26
          replace H := Option.bind_eq_some_iff.mp H
          obtain ⟨t320, A290, H⟩ := H
          replace H : (if t320 = true then (if t315 = true then (if t314 = true then (if (t306.size : Int) < 2 then (none) else (if 0 ≤ 1 then (if 1 ≤ (t306.size : Int) then (if (t306.extract 0 1).toList = t305.toList then (if t311 = true then (if t319 = true then (if t310 < 1 then (none) else (laws_FnTalksKnow.j1 kj9 l1 t302 t303 t304 t305 t306 t310 t311 t316 t317 t318 t319 (decide (t310 > t318)))) else (none)) else (laws_FnTalksKnow.j1 kj9 l1 t302 t303 t304 t305 t306 t310 t311 t316 t317 t318 t319 false)) else (none)) else (none)) else (none))) else (none)) else (none)) else (none)) = some r := H
          have A29 := Aside0.mk A290
          clear A290
          by_cases c30 : t320 = true
          ·subst c30
           have H1 : (if t315 = true then (if t314 = true then (if (t306.size : Int) < 2 then (none) else (if 0 ≤ 1 then (if 1 ≤ (t306.size : Int) then (if (t306.extract 0 1).toList = t305.toList then (if t311 = true then (if t319 = true then (if t310 < 1 then (none) else (laws_FnTalksKnow.j1 kj9 l1 t302 t303 t304 t305 t306 t310 t311 t316 t317 t318 t319 (decide (t310 > t318)))) else (none)) else (laws_FnTalksKnow.j1 kj9 l1 t302 t303 t304 t305 t306 t310 t311 t316 t317 t318 t319 false)) else (none)) else (none)) else (none))) else (none)) else (none)) = some r := by rw [if_pos rfl] at H; exact H
           clear H
           have H := H1
           clear H1
           by_cases c31 : t315 = true
           ·subst c31
            have H1 : (if t314 = true then (if (t306.size : Int) < 2 then (none) else (if 0 ≤ 1 then (if 1 ≤ (t306.size : Int) then (if (t306.extract 0 1).toList = t305.toList then (if t311 = true then (if t319 = true then (if t310 < 1 then (none) else (laws_FnTalksKnow.j1 kj9 l1 t302 t303 t304 t305 t306 t310 t311 t316 t317 t318 t319 (decide (t310 > t318)))) else (none)) else (laws_FnTalksKnow.j1 kj9 l1 t302 t303 t304 t305 t306 t310 t311 t316 t317 t318 t319 false)) else (none)) else (none)) else (none))) else (none)) = some r := by rw [if_pos rfl] at H; exact H
            clear H
            have H := H1
            clear H1
            by_cases c32 : t314 = true
            ·subst c32
             have H1 : (if (t306.size : Int) < 2 then (none) else (if 0 ≤ 1 then (if 1 ≤ (t306.size : Int) then (if (t306.extract 0 1).toList = t305.toList then (if t311 = true then (if t319 = true then (if t310 < 1 then (none) else (laws_FnTalksKnow.j1 kj9 l1 t302 t303 t304 t305 t306 t310 t311 t316 t317 t318 t319 (decide (t310 > t318)))) else (none)) else (laws_FnTalksKnow.j1 kj9 l1 t302 t303 t304 t305 t306 t310 t311 t316 t317 t318 t319 false)) else (none)) else (none)) else (none))) = some r := by rw [if_pos rfl] at H; exact H
             clear H
             have H := H1
             clear H1
             by_cases c33 : (t306.size : Int) < 2
             ·rw [if_pos c33] at H
              exact absurd H (by simp)
             ·rw [if_neg c33] at H
              have c33b0 : decide ((t306.size : Int) < 2) = false := decide_eq_false c33
              have c33b1 : decide (t306.size < 2) = false := decide_eq_false (by omega)
              clear c33
              (first | rw [c33b0] | (simp only [i64_w, i32_w]; rw [c33b0]) | skip)
              by_cases c34 : 0 ≤ 1
              ·rw [if_pos c34] at H
               have c34b0 := eq_true c34
               have c34b1 : decide (0 ≤ 1) = true := decide_eq_true c34
               clear c34
               by_cases c35 : 1 ≤ (t306.size : Int)
               ·rw [if_pos c35] at H
                have c35b0 := eq_true c35
                have c35b1 : decide (1 ≤ (t306.size : Int)) = true := decide_eq_true c35
                clear c35
                by_cases c36 : (t306.extract 0 1).toList = t305.toList
                ·rw [if_pos c36] at H
                 have c36b0 : ((t306.extract 0 1).toList == t305.toList) = true := beq_iff_eq.mpr c36
                 have c36b1 : ((t306.extract 0 1).toList != t305.toList) = false := bne_eq_false_iff_eq.mpr c36
                 clear c36
                 by_cases c37 : t311 = true
                 ·subst c37
                  have H1 : (if t319 = true then (if t310 < 1 then (none) else (laws_FnTalksKnow.j1 kj9 l1 t302 t303 t304 t305 t306 t310 true t316 t317 t318 t319 (decide (t310 > t318)))) else (none)) = some r := by rw [if_pos rfl] at H; exact H
                  clear H
                  have H := H1
                  clear H1
                  by_cases c38 : t319 = true
                  ·subst c38
                   have H1 : (if t310 < 1 then (none) else (laws_FnTalksKnow.j1 kj9 l1 t302 t303 t304 t305 t306 t310 true t316 t317 t318 true (decide (t310 > t318)))) = some r := by rw [if_pos rfl] at H; exact H
                   clear H
                   have H := H1
                   clear H1
                   by_cases c39 : t310 < 1
                   ·rw [if_pos c39] at H
                    exact absurd H (by simp)
                   ·rw [if_neg c39] at H
                    have c39b0 : decide (t310 < 1) = false := decide_eq_false c39
                    clear c39
                    have H' := Aside0.mk H
                    clear H
                    go_wp2_with (first | (go_at_call 40; (with_reducible refine (impl_IsTalk.calls t306 true _ A29.out).mono ?_); rintro e w40 ⟨rfl, hb⟩; have n0_ := kH HB hb; replace HB := n0_; clear n0_; (try clear hb)))
                    repeat (go_quiet (first | (go_at_call 40; (with_reducible refine (impl_IsTalk.calls t306 true _ A29.out).mono ?_); rintro e w40 ⟨rfl, hb⟩; have n0_ := kH HB hb; replace HB := n0_; clear n0_; (try clear hb))); try go_wp2_with (first | (go_at_call 40; (with_reducible refine (impl_IsTalk.calls t306 true _ A29.out).mono ?_); rintro e w40 ⟨rfl, hb⟩; have n0_ := kH HB hb; replace HB := n0_; clear n0_; (try clear hb))))
                    go_meet
                    case rel => exact ⟨_, (decide (t310 > t318)), (by first | rfl | (simp; done) | (simp [*]; done)), H', ⟨by have := HJ9.out; first | omega | exact Nat.le_refl _⟩, kI⟩
                  ·replace c38 := Bool.eq_false_iff.mpr c38
                   subst c38
                   have H1 : (none) = some r := by rw [if_neg (show ¬ (false = true) by decide)] at H; exact H
                   clear H
                   have H := H1
                   clear H1
                   exact absurd H (by simp)
                 ·replace c37 := Bool.eq_false_iff.mpr c37
                  subst c37
                  have H1 : (laws_FnTalksKnow.j1 kj9 l1 t302 t303 t304 t305 t306 t310 false t316 t317 t318 t319 false) = some r := by rw [if_neg (show ¬ (false = true) by decide)] at H; exact H
                  clear H
                  have H := H1
                  clear H1
                  have H' := Aside0.mk H
                  clear H
                  go_wp2_with (first | (go_at_call 40; (with_reducible refine (impl_IsTalk.calls t306 true _ A29.out).mono ?_); rintro e w41 ⟨rfl, hb⟩; have n0_ := kH HB hb; replace HB := n0_; clear n0_; (try clear hb)))
                  repeat (go_quiet (first | (go_at_call 40; (with_reducible refine (impl_IsTalk.calls t306 true _ A29.out).mono ?_); rintro e w41 ⟨rfl, hb⟩; have n0_ := kH HB hb; replace HB := n0_; clear n0_; (try clear hb))); try go_wp2_with (first | (go_at_call 40; (with_reducible refine (impl_IsTalk.calls t306 true _ A29.out).mono ?_); rintro e w41 ⟨rfl, hb⟩; have n0_ := kH HB hb; replace HB := n0_; clear n0_; (try clear hb))))
                  go_meet
                  case rel => exact ⟨_, (false), (by first | rfl | (simp; done) | (simp [*]; done)), H', ⟨by have := HJ9.out; first | omega | exact Nat.le_refl _⟩, kI⟩
                ·rw [if_neg c36] at H
                 exact absurd H (by simp)
               ·rw [if_neg c35] at H
                exact absurd H (by simp)
              ·rw [if_neg c34] at H
               exact absurd H (by simp)
            ·replace c32 := Bool.eq_false_iff.mpr c32
             subst c32
             have H1 : (none) = some r := by rw [if_neg (show ¬ (false = true) by decide)] at H; exact H
             clear H
             have H := H1
             clear H1
             exact absurd H (by simp)
           ·replace c31 := Bool.eq_false_iff.mpr c31
            subst c31
            have H1 : (none) = some r := by rw [if_neg (show ¬ (false = true) by decide)] at H; exact H
            clear H
            have H := H1
            clear H1
            exact absurd H (by simp)
          ·replace c30 := Bool.eq_false_iff.mpr c30
           subst c30
           have H1 : (none) = some r := by rw [if_neg (show ¬ (false = true) by decide)] at H; exact H
           clear H
           have H := H1
           clear H1
           exact absurd H (by simp)
        case rest =>
         clear HC26
         try clear c1
         try clear c4
         try clear c21
         try clear c23
         obtain ⟨kq, x192_25, rfl, HA, HJ25, HB⟩ := hcut
         cases kq with
         | zero => exact absurd HA.out (by simp [laws_FnTalksKnow.j1])
         | succ kj25 =>
          have H := HA.out
          clear HA
          simp only [laws_FnTalksKnow.j1] at H
          by_cases c42 : x192_25 = true
          ·subst c42
           have H1 : (none) = some r := by rw [if_pos rfl] at H; exact H
           clear H
           have H := H1
           clear H1
           exact absurd H (by simp)
          ·replace c42 := Bool.eq_false_iff.mpr c42
           subst c42
           have H1 : (laws_FnTalksKnow.l0 kj25 l1 t302 t303 t304 t305 t306 t310 t311 t316 t317 t318 t319 0) = some r := by rw [if_neg (show ¬ (false = true) by decide)] at H; exact H
           clear H
           have H := H1
           clear H1
           have H' := Aside0.mk H
           clear H
           go_wp2
           repeat (go_quiet (fail); try go_wp2)
           go_loopg [23] kj25 (fun kq v23 w' => ∃ (x23_3 : Int), v23 = .int .i64 x23_3 ∧ Aside0 (laws_FnTalksKnow.l0 kq l1 t302 t303 t304 t305 t306 t310 t311 t316 t317 t318 t319 x23_3 = some r) ∧ Aside0 (kq ≤ kj25) ∧ Aside0 (Below w.heap.size w w'))
           case atStart => exact ⟨(0), (by first | rfl | (simp; done) | (simp [*]; done)), H', ⟨Nat.le_refl _⟩, kI⟩
           case round =>
            try simp only [List.append]
            clear H'
            try clear c1
            try clear c4
            try clear c21
            try clear c23
            try clear c42
            obtain ⟨x23_3, rfl, HA, HK3, HB⟩ := hrel
            cases gk with
            | zero => exact absurd HA.out (by simp [laws_FnTalksKnow.l0])
            | succ k3 =>
             have H := HA.out
             clear HA
             simp only [laws_FnTalksKnow.l0] at H
             by_cases c43 : x23_3 < (t306.size : Int)
             ·rw [if_pos c43] at H
              have c43b0 : decide (x23_3 < (t306.size : Int)) = true := decide_eq_true c43
              have q54 : (x23_3 < (t306.size : Int)) = True := eq_true c43
              clear c43
              obtain ⟨ji44, hji44⟩ : ∃ j_ : Int, (wrap64 (x23_3 + 1)) = j_ := ⟨_, rfl⟩
              obtain ⟨jq, hjq⟩ : ∃ j_ : Int, (wrap64 ((wrap64 (Int.tdiv x23_3 2)) + 1)) = j_ := ⟨_, rfl⟩
              obtain ⟨j2, hj2⟩ : ∃ j_ : Int, (wrap64 (x23_3 + 2)) = j_ := ⟨_, rfl⟩
              obtain ⟨ji55, hji55⟩ : ∃ j_ : Int, (wrap64 (x23_3 - 2)) = j_ := ⟨_, rfl⟩
              have hji44w : (IntKind.i64.wrap (x23_3 + 1)) = ji44 := (i64_w _).trans hji44
              have hj2w : (IntKind.i64.wrap (x23_3 + 2)) = j2 := (i64_w _).trans hj2
              have hji55w : (IntKind.i64.wrap (x23_3 - 2)) = ji55 := (i64_w _).trans hji55
              have hjqw : IntKind.i64.wrap (IntKind.i64.wrap (x23_3.tdiv 2) + 1) = jq := by rw [i64_w, i64_w]; exact hjq
              simp only [hji44, hjq, hj2, hji55] at H
              have key := laws_FnTalksKnow.l0_round (t306.size : Int) t310 x23_3 jq ji44 ji55 j2 (bt t306 ji44) (bt t306 ji55) (bt t306 x23_3) t311 _ r H
              clear H
              obtain ⟨⟨h45, h46⟩, h61, hT, hF, hP, hX, H⟩ := key
              have H' := Aside0.mk H
              clear H
              have h61b0 : ((bt t306 ji44) == 33) = false := beq_eq_false_iff_ne.mpr h61
              have h61b1 : ((bt t306 ji44) != 33) = true := bne_iff_ne.mpr h61
              have hx47 := bt_at t306 ji44
              have c45b0 : decide (0 ≤ ji44) = true := decide_eq_true h45
              have c46b0 : decide (ji44 < (t306.size : Int)) = true := decide_eq_true h46
              replace h45 := eq_true h45
              replace h46 := eq_true h46
              clear h61
              obtain ⟨pb, hpb⟩ : ∃ p, ((bt t306 ji44) == 43) = p := ⟨_, rfl⟩
              rw [hpb] at hT
              go_upto_region 19 with (fail)
              (try simp only [Act.put, List.setIfInBounds_toArray, List.set_cons_zero, List.set_cons_succ])
              go_cut [244] from 1 to 0 (fun v244 wc => v244 = .bool false ∧ Aside0 (Below w.heap.size w wc))
              case first =>
               try clear A0
               try clear A1
               try clear A24
               try clear A240
               try clear A25
               try clear A250
               try clear A29
               try clear A290
               try clear A3
               try clear A30
               try clear A5
               try clear A50
               try clear A6
               try clear A60
               try clear A7
               try clear A70
               try clear A8
               try clear A80
               try clear A9
               try clear A90
               try clear HC0
               try clear HC1
               try clear HC10
               try clear HC22
               try clear HC26
               try clear HJ25
               try clear HJ9
               try clear HK3
               try clear HR0
               try clear HR1
               clear H'
               by_cases h0 : 0 < x23_3
               ·obtain ⟨h53, ⟨h56, h57⟩, h59⟩ := hX h0
                have c52b0 : decide (0 < x23_3) = true := decide_eq_true h0
                have c53b0 : decide (0 ≤ x23_3) = true := decide_eq_true h53
                have c56b0 : decide (0 ≤ ji55) = true := decide_eq_true h56
                have c57b0 : decide (ji55 < (t306.size : Int)) = true := decide_eq_true h57
                have c59b0 : ((bt t306 x23_3) == (bt t306 ji55)) = false := beq_eq_false_iff_ne.mpr h59
                have c59b1 : ((bt t306 x23_3) != (bt t306 ji55)) = true := bne_iff_ne.mpr h59
                have hx54 := bt_at t306 x23_3
                have hx58 := bt_at t306 ji55
                replace h53 := eq_true h53
                replace h56 := eq_true h56
                replace h57 := eq_true h57
                clear h59 h0
                cases pb with
                | true =>
                 have hb : (bt t306 ji44) = 43 := beq_iff_eq.mp hpb
                 have c50b1 : ((bt t306 ji44) != 43) = false := bne_eq_false_iff_eq.mpr hb
                 have c51 := hP hb
                 have c51b0 : (j2 == (t306.size : Int)) = true := beq_iff_eq.mpr c51
                 have c51b1 : (j2 != (t306.size : Int)) = false := bne_eq_false_iff_eq.mpr c51
                 cases t311 with
                 | false => exact absurd hb (hF rfl)
                 | true =>
                  have hq : (t310 == jq) = true := (hT rfl).symm
                  clear hT hF hP hX c51 hb
                  as_aux_lemma =>
                   repeat (go_quiet (fail); try go_wp2)
                   go_meet
                   case rel => exact ⟨rfl, kI⟩
                | false =>
                 have hb : ¬ (bt t306 ji44) = 43 := beq_eq_false_iff_ne.mp hpb
                 have c50b1 : ((bt t306 ji44) != 43) = true := bne_iff_ne.mpr hb
                 cases t311 with
                 | false =>
                  clear hT hF hP hX hb
                  as_aux_lemma =>
                   repeat (go_quiet (fail); try go_wp2)
                   go_meet
                   case rel => exact ⟨rfl, kI⟩
                 | true =>
                  have hq : (t310 == jq) = false := (hT rfl).symm
                  clear hT hF hP hX hb
                  as_aux_lemma =>
                   repeat (go_quiet (fail); try go_wp2)
                   go_meet
                   case rel => exact ⟨rfl, kI⟩
               ·have c52b0 : decide (0 < x23_3) = false := decide_eq_false h0
                clear h0
                cases pb with
                | true =>
                 have hb : (bt t306 ji44) = 43 := beq_iff_eq.mp hpb
                 have c50b1 : ((bt t306 ji44) != 43) = false := bne_eq_false_iff_eq.mpr hb
                 have c51 := hP hb
                 have c51b0 : (j2 == (t306.size : Int)) = true := beq_iff_eq.mpr c51
                 have c51b1 : (j2 != (t306.size : Int)) = false := bne_eq_false_iff_eq.mpr c51
                 cases t311 with
                 | false => exact absurd hb (hF rfl)
                 | true =>
                  have hq : (t310 == jq) = true := (hT rfl).symm
                  clear hT hF hP hX c51 hb
                  as_aux_lemma =>
                   repeat (go_quiet (fail); try go_wp2)
                   go_meet
                   case rel => exact ⟨rfl, kI⟩
                | false =>
                 have hb : ¬ (bt t306 ji44) = 43 := beq_eq_false_iff_ne.mp hpb
                 have c50b1 : ((bt t306 ji44) != 43) = true := bne_iff_ne.mpr hb
                 cases t311 with
                 | false =>
                  clear hT hF hP hX hb
                  as_aux_lemma =>
                   repeat (go_quiet (fail); try go_wp2)
                   go_meet
                   case rel => exact ⟨rfl, kI⟩
                 | true =>
                  have hq : (t310 == jq) = false := (hT rfl).symm
                  clear hT hF hP hX hb
                  as_aux_lemma =>
                   repeat (go_quiet (fail); try go_wp2)
                   go_meet
                   case rel => exact ⟨rfl, kI⟩
              case rest =>
               obtain ⟨rfl, HB⟩ := hcut
               clear hT hF hP hX hpb
               go_wp2
               go_roundg k3
               case measure => have := HJ9.out; have := HJ25.out; have := HK3.out; omega
               case rel => exact ⟨j2, (by first | rfl | (simp; done) | (simp [*]; done)), H', ⟨by have := HJ9.out; have := HJ25.out; have := HK3.out; omega⟩, kI⟩
             ·rw [if_neg c43] at H
              have c43b0 : decide (x23_3 < (t306.size : Int)) = false := decide_eq_false c43
              clear c43
              have HC103 := Aside0.mk H
              clear H
              go_upto_region 21 with (fail)
              repeat (go_quiet (fail); go_upto_region 21 with (fail))
              go_cut [269] from 1 to 0 (fun v269 wc => ∃ (kq : Nat) (x269_102 : Bool), v269 = .bool x269_102 ∧ Aside0 (laws_FnTalksKnow.j3 kq l1 t302 t303 t304 t305 t310 t311 t316 t317 t318 t319 x269_102 = some r) ∧ Aside0 (kq ≤ k3) ∧ Aside0 (Below w.heap.size w wc))
              case first =>
               as_aux_lemma =>
                have H := HC103.out
                clear HC103
                by_cases c104 : t311 = true
                ·subst c104
                 have H1 : (if t310 > 12 then (if (t306.size : Int) = 24 then (if t310 ≤ 12 then (laws_FnTalksKnow.j3 k3 l1 t302 t303 t304 t305 t310 true t316 t317 t318 t319 ((t306.size : Int) != (wrap64 (2 * t310)))) else (laws_FnTalksKnow.j3 k3 l1 t302 t303 t304 t305 t310 true t316 t317 t318 t319 false)) else (none)) else (if t310 ≤ 12 then (laws_FnTalksKnow.j3 k3 l1 t302 t303 t304 t305 t310 true t316 t317 t318 t319 ((t306.size : Int) != (wrap64 (2 * t310)))) else (laws_FnTalksKnow.j3 k3 l1 t302 t303 t304 t305 t310 true t316 t317 t318 t319 false))) = some r := by rw [if_pos rfl] at H; exact H
                 clear H
                 have H := H1
                 clear H1
                 by_cases c105 : t310 > 12
                 ·rw [if_pos c105] at H
                  have c105b0 : decide (12 < t310) = true := decide_eq_true c105
                  clear c105
                  (first | rw [c105b0] | (simp only [i64_w, i32_w]; rw [c105b0]) | skip)
                  by_cases c106 : (t306.size : Int) = 24
                  ·rw [if_pos c106] at H
                   have c106b0 : ((t306.size : Int) == 24) = true := beq_iff_eq.mpr c106
                   have c106b1 : ((t306.size : Int) != 24) = false := bne_eq_false_iff_eq.mpr c106
                   clear c106
                   by_cases c107 : t310 ≤ 12
                   ·rw [if_pos c107] at H
                    have c107b0 : decide (t310 ≤ 12) = true := decide_eq_true c107
                    clear c107
                    have H' := Aside0.mk H
                    clear H
                    go_wp2
                    repeat (go_quiet (fail); try go_wp2)
                    go_meet
                    case rel => exact ⟨_, (((t306.size : Int) != (wrap64 (2 * t310)))), (by first | rfl | (simp; done) | (simp [*]; done)), H', ⟨by have := HJ9.out; have := HJ25.out; have := HK3.out; first | omega | exact Nat.le_refl _⟩, kI⟩
                   ·rw [if_neg c107] at H
                    have c107b0 : decide (t310 ≤ 12) = false := decide_eq_false c107
                    clear c107
                    have H' := Aside0.mk H
                    clear H
                    go_wp2
                    repeat (go_quiet (fail); try go_wp2)
                    go_meet
                    case rel => exact ⟨_, (false), (by first | rfl | (simp; done) | (simp [*]; done)), H', ⟨by have := HJ9.out; have := HJ25.out; have := HK3.out; first | omega | exact Nat.le_refl _⟩, kI⟩
                  ·rw [if_neg c106] at H
                   exact absurd H (by simp)
                 ·rw [if_neg c105] at H
                  have c105b0 : decide (12 < t310) = false := decide_eq_false c105
                  clear c105
                  (first | rw [c105b0] | (simp only [i64_w, i32_w]; rw [c105b0]) | skip)
                  by_cases c108 : t310 ≤ 12
                  ·rw [if_pos c108] at H
                   have c108b0 : decide (t310 ≤ 12) = true := decide_eq_true c108
                   clear c108
                   have H' := Aside0.mk H
                   clear H
                   go_wp2
                   repeat (go_quiet (fail); try go_wp2)
                   go_meet
                   case rel => exact ⟨_, (((t306.size : Int) != (wrap64 (2 * t310)))), (by first | rfl | (simp; done) | (simp [*]; done)), H', ⟨by have := HJ9.out; have := HJ25.out; have := HK3.out; first | omega | exact Nat.le_refl _⟩, kI⟩
                  ·rw [if_neg c108] at H
                   have c108b0 : decide (t310 ≤ 12) = false := decide_eq_false c108
                   clear c108
                   have H' := Aside0.mk H
                   clear H
                   go_wp2
                   repeat (go_quiet (fail); try go_wp2)
                   go_meet
                   case rel => exact ⟨_, (false), (by first | rfl | (simp; done) | (simp [*]; done)), H', ⟨by have := HJ9.out; have := HJ25.out; have := HK3.out; first | omega | exact Nat.le_refl _⟩, kI⟩
                ·replace c104 := Bool.eq_false_iff.mpr c104
                 subst c104
                 have H1 : (if (t306.size : Int) = 24 then (laws_FnTalksKnow.j3 k3 l1 t302 t303 t304 t305 t310 false t316 t317 t318 t319 false) else (none)) = some r := by rw [if_neg (show ¬ (false = true) by decide)] at H; exact H
                 clear H
                 have H := H1
                 clear H1
                 by_cases c109 : (t306.size : Int) = 24
                 ·rw [if_pos c109] at H
                  have c109b0 : ((t306.size : Int) == 24) = true := beq_iff_eq.mpr c109
                  have c109b1 : ((t306.size : Int) != 24) = false := bne_eq_false_iff_eq.mpr c109
                  clear c109
                  have H' := Aside0.mk H
                  clear H
                  go_wp2
                  repeat (go_quiet (fail); try go_wp2)
                  go_meet
                  case rel => exact ⟨_, (false), (by first | rfl | (simp; done) | (simp [*]; done)), H', ⟨by have := HJ9.out; have := HJ25.out; have := HK3.out; first | omega | exact Nat.le_refl _⟩, kI⟩
                 ·rw [if_neg c109] at H
                  exact absurd H (by simp)
              case rest =>
               clear HC103
               try clear c1
               try clear c4
               try clear c21
               try clear c23
               try clear c42
               try clear c43
               try clear c43b0
               obtain ⟨kq, x269_102, rfl, HA, HJ102, HB⟩ := hcut
               cases kq with
               | zero => exact absurd HA.out (by simp [laws_FnTalksKnow.j3])
               | succ kj102 =>
                have H := HA.out
                clear HA
                simp only [laws_FnTalksKnow.j3] at H
                by_cases c110 : x269_102 = true
                ·subst c110
                 have H1 : (none) = some r := by rw [if_pos rfl] at H; exact H
                 clear H
                 have H := H1
                 clear H1
                 exact absurd H (by simp)
                ·replace c110 := Bool.eq_false_iff.mpr c110
                 subst c110
                 have H1 : (if t319 = true then ((impl_KnownAfter.f t302 t316 t317 t305).bind fun bt321 => (if bt321.2 = true then (if bt321.1 = t318 then (if t311 = true then (if t310 = t318 then (if t303 < t316 then (none) else (if t303 = t316 then (if t304 < t317 then (none) else (laws_FnTalksKnow.j4 kj102 l1)) else (laws_FnTalksKnow.j4 kj102 l1))) else (laws_FnTalksKnow.j4 kj102 l1)) else (laws_FnTalksKnow.j4 kj102 l1)) else (none)) else (none))) else (laws_FnTalksKnow.j4 kj102 l1)) = some r := by rw [if_neg (show ¬ (false = true) by decide)] at H; exact H
                 clear H
                 have H := H1
                 clear H1
                 by_cases c111 : t319 = true
                 ·subst c111
                  have H1 : ((impl_KnownAfter.f t302 t316 t317 t305).bind fun bt321 => (if bt321.2 = true then (if bt321.1 = t318 then (if t311 = true then (if t310 = t318 then (if t303 < t316 then (none) else (if t303 = t316 then (if t304 < t317 then (none) else (laws_FnTalksKnow.j4 kj102 l1)) else (laws_FnTalksKnow.j4 kj102 l1))) else (laws_FnTalksKnow.j4 kj102 l1)) else (laws_FnTalksKnow.j4 kj102 l1)) else (none)) else (none))) = some r := by rw [if_pos rfl] at H; exact H
                  clear H
                  have H := H1
                  clear H1
                  replace H := Option.bind_eq_some_iff.mp H
                  obtain ⟨⟨t321, t322⟩, A1120, H⟩ := H
                  replace H : (if t322 = true then (if t321 = t318 then (if t311 = true then (if t310 = t318 then (if t303 < t316 then (none) else (if t303 = t316 then (if t304 < t317 then (none) else (laws_FnTalksKnow.j4 kj102 l1)) else (laws_FnTalksKnow.j4 kj102 l1))) else (laws_FnTalksKnow.j4 kj102 l1)) else (laws_FnTalksKnow.j4 kj102 l1)) else (none)) else (none)) = some r := H
                  have A112 := Aside0.mk A1120
                  clear A1120
                  by_cases c113 : t322 = true
                  ·subst c113
                   have H1 : (if t321 = t318 then (if t311 = true then (if t310 = t318 then (if t303 < t316 then (none) else (if t303 = t316 then (if t304 < t317 then (none) else (laws_FnTalksKnow.j4 kj102 l1)) else (laws_FnTalksKnow.j4 kj102 l1))) else (laws_FnTalksKnow.j4 kj102 l1)) else (laws_FnTalksKnow.j4 kj102 l1)) else (none)) = some r := by rw [if_pos rfl] at H; exact H
                   clear H
                   have H := H1
                   clear H1
                   by_cases c114 : t321 = t318
                   ·rw [if_pos c114] at H
                    have c114b0 : (t321 == t318) = true := beq_iff_eq.mpr c114
                    have c114b1 : (t321 != t318) = false := bne_eq_false_iff_eq.mpr c114
                    clear c114
                    by_cases c115 : t311 = true
                    ·subst c115
                     have H1 : (if t310 = t318 then (if t303 < t316 then (none) else (if t303 = t316 then (if t304 < t317 then (none) else (laws_FnTalksKnow.j4 kj102 l1)) else (laws_FnTalksKnow.j4 kj102 l1))) else (laws_FnTalksKnow.j4 kj102 l1)) = some r := by rw [if_pos rfl] at H; exact H
                     clear H
                     have H := H1
                     clear H1
                     by_cases c116 : t310 = t318
                     ·rw [if_pos c116] at H
                      have c116b0 : (t310 == t318) = true := beq_iff_eq.mpr c116
                      have c116b1 : (t310 != t318) = false := bne_eq_false_iff_eq.mpr c116
                      clear c116
                      by_cases c117 : t303 < t316
                      ·rw [if_pos c117] at H
                       exact absurd H (by simp)
                      ·rw [if_neg c117] at H
                       have c117b0 : decide (t303 < t316) = false := decide_eq_false c117
                       clear c117
                       by_cases c118 : t303 = t316
                       ·rw [if_pos c118] at H
                        have c118b0 : (t303 == t316) = true := beq_iff_eq.mpr c118
                        have c118b1 : (t303 != t316) = false := bne_eq_false_iff_eq.mpr c118
                        clear c118
                        by_cases c119 : t304 < t317
                        ·rw [if_pos c119] at H
                         exact absurd H (by simp)
                        ·rw [if_neg c119] at H
                         have c119b0 : decide (t304 < t317) = false := decide_eq_false c119
                         clear c119
                         have H' := Aside0.mk H
                         clear H
                         go_wp2_with (first | (go_at_call 36; (with_reducible refine (impl_KnownAfter.calls t302 t316 t317 t305 t321 true _ A112.out).mono ?_); rintro e w120 ⟨rfl, hb⟩; have n0_ := kH HB hb; replace HB := n0_; clear n0_; (try clear hb)))
                         repeat (go_quiet (first | (go_at_call 36; (with_reducible refine (impl_KnownAfter.calls t302 t316 t317 t305 t321 true _ A112.out).mono ?_); rintro e w120 ⟨rfl, hb⟩; have n0_ := kH HB hb; replace HB := n0_; clear n0_; (try clear hb))); try go_wp2_with (first | (go_at_call 36; (with_reducible refine (impl_KnownAfter.calls t302 t316 t317 t305 t321 true _ A112.out).mono ?_); rintro e w120 ⟨rfl, hb⟩; have n0_ := kH HB hb; replace HB := n0_; clear n0_; (try clear hb))))
                         go_meet
                         case rel => exact ⟨_, H', ⟨by have := HJ9.out; have := HJ25.out; have := HK3.out; have := HJ102.out; first | omega | exact Nat.le_refl _⟩, kI⟩
                       ·rw [if_neg c118] at H
                        have c118b0 : (t303 == t316) = false := beq_eq_false_iff_ne.mpr c118
                        have c118b1 : (t303 != t316) = true := bne_iff_ne.mpr c118
                        have H' := Aside0.mk H
                        clear H
                        go_wp2_with (first | (go_at_call 36; (with_reducible refine (impl_KnownAfter.calls t302 t316 t317 t305 t321 true _ A112.out).mono ?_); rintro e w121 ⟨rfl, hb⟩; have n0_ := kH HB hb; replace HB := n0_; clear n0_; (try clear hb)))
                        repeat (go_quiet (first | (go_at_call 36; (with_reducible refine (impl_KnownAfter.calls t302 t316 t317 t305 t321 true _ A112.out).mono ?_); rintro e w121 ⟨rfl, hb⟩; have n0_ := kH HB hb; replace HB := n0_; clear n0_; (try clear hb))); try go_wp2_with (first | (go_at_call 36; (with_reducible refine (impl_KnownAfter.calls t302 t316 t317 t305 t321 true _ A112.out).mono ?_); rintro e w121 ⟨rfl, hb⟩; have n0_ := kH HB hb; replace HB := n0_; clear n0_; (try clear hb))))
                        go_meet
                        case rel => exact ⟨_, H', ⟨by have := HJ9.out; have := HJ25.out; have := HK3.out; have := HJ102.out; first | omega | exact Nat.le_refl _⟩, kI⟩
                     ·rw [if_neg c116] at H
                      have c116b0 : (t310 == t318) = false := beq_eq_false_iff_ne.mpr c116
                      have c116b1 : (t310 != t318) = true := bne_iff_ne.mpr c116
                      have H' := Aside0.mk H
                      clear H
                      go_wp2_with (first | (go_at_call 36; (with_reducible refine (impl_KnownAfter.calls t302 t316 t317 t305 t321 true _ A112.out).mono ?_); rintro e w122 ⟨rfl, hb⟩; have n0_ := kH HB hb; replace HB := n0_; clear n0_; (try clear hb)))
                      repeat (go_quiet (first | (go_at_call 36; (with_reducible refine (impl_KnownAfter.calls t302 t316 t317 t305 t321 true _ A112.out).mono ?_); rintro e w122 ⟨rfl, hb⟩; have n0_ := kH HB hb; replace HB := n0_; clear n0_; (try clear hb))); try go_wp2_with (first | (go_at_call 36; (with_reducible refine (impl_KnownAfter.calls t302 t316 t317 t305 t321 true _ A112.out).mono ?_); rintro e w122 ⟨rfl, hb⟩; have n0_ := kH HB hb; replace HB := n0_; clear n0_; (try clear hb))))
                      go_meet
                      case rel => exact ⟨_, H', ⟨by have := HJ9.out; have := HJ25.out; have := HK3.out; have := HJ102.out; first | omega | exact Nat.le_refl _⟩, kI⟩
                    ·replace c115 := Bool.eq_false_iff.mpr c115
                     subst c115
                     have H1 : (laws_FnTalksKnow.j4 kj102 l1) = some r := by rw [if_neg (show ¬ (false = true) by decide)] at H; exact H
                     clear H
                     have H := H1
                     clear H1
                     have H' := Aside0.mk H
                     clear H
                     go_wp2_with (first | (go_at_call 36; (with_reducible refine (impl_KnownAfter.calls t302 t316 t317 t305 t321 true _ A112.out).mono ?_); rintro e w123 ⟨rfl, hb⟩; have n0_ := kH HB hb; replace HB := n0_; clear n0_; (try clear hb)))
                     repeat (go_quiet (first | (go_at_call 36; (with_reducible refine (impl_KnownAfter.calls t302 t316 t317 t305 t321 true _ A112.out).mono ?_); rintro e w123 ⟨rfl, hb⟩; have n0_ := kH HB hb; replace HB := n0_; clear n0_; (try clear hb))); try go_wp2_with (first | (go_at_call 36; (with_reducible refine (impl_KnownAfter.calls t302 t316 t317 t305 t321 true _ A112.out).mono ?_); rintro e w123 ⟨rfl, hb⟩; have n0_ := kH HB hb; replace HB := n0_; clear n0_; (try clear hb))))
                     go_meet
                     case rel => exact ⟨_, H', ⟨by have := HJ9.out; have := HJ25.out; have := HK3.out; have := HJ102.out; first | omega | exact Nat.le_refl _⟩, kI⟩
                   ·rw [if_neg c114] at H
                    exact absurd H (by simp)
                  ·replace c113 := Bool.eq_false_iff.mpr c113
                   subst c113
                   have H1 : (none) = some r := by rw [if_neg (show ¬ (false = true) by decide)] at H; exact H
                   clear H
                   have H := H1
                   clear H1
                   exact absurd H (by simp)
                 ·replace c111 := Bool.eq_false_iff.mpr c111
                  subst c111
                  have H1 : (laws_FnTalksKnow.j4 kj102 l1) = some r := by rw [if_neg (show ¬ (false = true) by decide)] at H; exact H
                  clear H
                  have H := H1
                  clear H1
                  have H' := Aside0.mk H
                  clear H
                  go_wp2
                  repeat (go_quiet (fail); try go_wp2)
                  go_meet
                  case rel => exact ⟨_, H', ⟨by have := HJ9.out; have := HJ25.out; have := HK3.out; have := HJ102.out; first | omega | exact Nat.le_refl _⟩, kI⟩
       ·replace c23 := Bool.eq_false_iff.mpr c23
        subst c23
        have H1 : (laws_FnTalksKnow.j4 kj9 l1) = some r := by rw [if_neg (show ¬ (false = true) by decide)] at H; exact H
        clear H
        have H := H1
        clear H1
        have H' := Aside0.mk H
        clear H
        go_wp2
        repeat (go_quiet (fail); try go_wp2)
        go_meet
        case rel => exact ⟨_, H', ⟨by have := HJ9.out; first | omega | exact Nat.le_refl _⟩, kI⟩
     case rest =>
      clear HC22
      try clear c1
      try clear c4
      try clear c21
      obtain ⟨kq, HA, HJ21, HB⟩ := hcut
      cases kq with
      | zero => exact absurd HA.out (by simp [laws_FnTalksKnow.j4])
      | succ kj21 =>
       have H := HA.out
       clear HA
       simp only [laws_FnTalksKnow.j4] at H
       replace H := Option.bind_eq_some_iff.mp H
       obtain ⟨⟨t323, t324⟩, A1240, H⟩ := H
       replace H : ((impl_LongestTalk.f t323 t324).bind fun bt325 => ((spec_LongestTalk.f kj21 t323 t324).bind fun bt329 => ((impl_CountNeverKnown.f t323 t324).bind fun bt333 => ((spec_CountNeverKnown.f kj21 t323 t324).bind fun bt335 => ((spec_DrawLimitsOf.f kj21 l1).bind fun bt337 => ((impl_LimitsOf.f kj21 bt337.1 bt337.2.1 bt337.2.2).bind fun bt340 => ((spec_LimitsOf.f kj21 bt337.1 bt337.2.1 bt337.2.2).bind fun bt344 => ((impl_LeastLimit.f kj21 bt337.1 bt337.2.1 bt337.2.2).bind fun bt348 => ((spec_LeastLimit.f kj21 bt337.1 bt337.2.1 bt337.2.2).bind fun bt350 => ((spec_DrawIsTrueTalk.f kj21 l1).bind fun bt352 => ((impl_IsTrueTalk.f bt352.1 bt352.2.1 bt352.2.2.1 bt352.2.2.2).bind fun bt356 => ((spec_IsTrueTalk.f kj21 bt352.1 bt352.2.1 bt352.2.2.1 bt352.2.2.2).bind fun bt358 => (if (bt325.2.2.2 != bt329.2.2.2) = true then (none) else (if bt325.1 = bt329.1 then (if bt325.2.1 = bt329.2.1 then (if bt325.2.2.1 = bt329.2.2.1 then (if (bt333.2 != bt335.2) = true then (none) else (if bt333.1 = bt335.1 then (if (bt340.2 != bt344.2) = true then (none) else ((laws_gSame.f kj21 bt340.1 bt344.1).bind fun t360 => (if t360 = true then (if (bt348.2 != bt350.2) = true then (none) else (if bt348.1 = bt350.1 then (if (bt356.2 != bt358.2) = true then (none) else (if (bt356.1 != bt358.1) = true then (none) else (if bt340.2 = true then (if (bt348.2 != (decide ((bt340.1.length : Int) > 0))) = true then (none) else (if bt325.2.2.2 = true then (laws_FnTalksKnow.j5 kj21 t323 t324 bt325.2.2.2 bt333.1 bt333.2 bt337.1 bt337.2.1 bt337.2.2 bt340.1 bt348.1 bt348.2 (!bt333.2)) else (laws_FnTalksKnow.j5 kj21 t323 t324 bt325.2.2.2 bt333.1 bt333.2 bt337.1 bt337.2.1 bt337.2.2 bt340.1 bt348.1 bt348.2 false))) else (if (bt348.2 != false) = true then (none) else (if bt325.2.2.2 = true then (laws_FnTalksKnow.j5 kj21 t323 t324 bt325.2.2.2 bt333.1 bt333.2 bt337.1 bt337.2.1 bt337.2.2 bt340.1 bt348.1 bt348.2 (!bt333.2)) else (laws_FnTalksKnow.j5 kj21 t323 t324 bt325.2.2.2 bt333.1 bt333.2 bt337.1 bt337.2.1 bt337.2.2 bt340.1 bt348.1 bt348.2 false)))))) else (none))) else (none)))) else (none))) else (none)) else (none)) else (none))))))))))))))) = some r := H
       have A124 := Aside0.mk A1240
       clear A1240
       replace H := Option.bind_eq_some_iff.mp H
       obtain ⟨⟨t325, t326, t327, t328⟩, A1250, H⟩ := H
       replace H : ((spec_LongestTalk.f kj21 t323 t324).bind fun bt329 => ((impl_CountNeverKnown.f t323 t324).bind fun bt333 => ((spec_CountNeverKnown.f kj21 t323 t324).bind fun bt335 => ((spec_DrawLimitsOf.f kj21 l1).bind fun bt337 => ((impl_LimitsOf.f kj21 bt337.1 bt337.2.1 bt337.2.2).bind fun bt340 => ((spec_LimitsOf.f kj21 bt337.1 bt337.2.1 bt337.2.2).bind fun bt344 => ((impl_LeastLimit.f kj21 bt337.1 bt337.2.1 bt337.2.2).bind fun bt348 => ((spec_LeastLimit.f kj21 bt337.1 bt337.2.1 bt337.2.2).bind fun bt350 => ((spec_DrawIsTrueTalk.f kj21 l1).bind fun bt352 => ((impl_IsTrueTalk.f bt352.1 bt352.2.1 bt352.2.2.1 bt352.2.2.2).bind fun bt356 => ((spec_IsTrueTalk.f kj21 bt352.1 bt352.2.1 bt352.2.2.1 bt352.2.2.2).bind fun bt358 => (if (t328 != bt329.2.2.2) = true then (none) else (if t325 = bt329.1 then (if t326 = bt329.2.1 then (if t327 = bt329.2.2.1 then (if (bt333.2 != bt335.2) = true then (none) else (if bt333.1 = bt335.1 then (if (bt340.2 != bt344.2) = true then (none) else ((laws_gSame.f kj21 bt340.1 bt344.1).bind fun t360 => (if t360 = true then (if (bt348.2 != bt350.2) = true then (none) else (if bt348.1 = bt350.1 then (if (bt356.2 != bt358.2) = true then (none) else (if (bt356.1 != bt358.1) = true then (none) else (if bt340.2 = true then (if (bt348.2 != (decide ((bt340.1.length : Int) > 0))) = true then (none) else (if t328 = true then (laws_FnTalksKnow.j5 kj21 t323 t324 t328 bt333.1 bt333.2 bt337.1 bt337.2.1 bt337.2.2 bt340.1 bt348.1 bt348.2 (!bt333.2)) else (laws_FnTalksKnow.j5 kj21 t323 t324 t328 bt333.1 bt333.2 bt337.1 bt337.2.1 bt337.2.2 bt340.1 bt348.1 bt348.2 false))) else (if (bt348.2 != false) = true then (none) else (if t328 = true then (laws_FnTalksKnow.j5 kj21 t323 t324 t328 bt333.1 bt333.2 bt337.1 bt337.2.1 bt337.2.2 bt340.1 bt348.1 bt348.2 (!bt333.2)) else (laws_FnTalksKnow.j5 kj21 t323 t324 t328 bt333.1 bt333.2 bt337.1 bt337.2.1 bt337.2.2 bt340.1 bt348.1 bt348.2 false)))))) else (none))) else (none)))) else (none))) else (none)) else (none)) else (none)))))))))))))) = some r := H
       have A125 := Aside0.mk A1250
       clear A1250
       replace H := Option.bind_eq_some_iff.mp H
       obtain ⟨⟨t329, t330, t331, t332⟩, A1260, H⟩ := H
       replace H : ((impl_CountNeverKnown.f t323 t324).bind fun bt333 => ((spec_CountNeverKnown.f kj21 t323 t324).bind fun bt335 => ((spec_DrawLimitsOf.f kj21 l1).bind fun bt337 => ((impl_LimitsOf.f kj21 bt337.1 bt337.2.1 bt337.2.2).bind fun bt340 => ((spec_LimitsOf.f kj21 bt337.1 bt337.2.1 bt337.2.2).bind fun bt344 => ((impl_LeastLimit.f kj21 bt337.1 bt337.2.1 bt337.2.2).bind fun bt348 => ((spec_LeastLimit.f kj21 bt337.1 bt337.2.1 bt337.2.2).bind fun bt350 => ((spec_DrawIsTrueTalk.f kj21 l1).bind fun bt352 => ((impl_IsTrueTalk.f bt352.1 bt352.2.1 bt352.2.2.1 bt352.2.2.2).bind fun bt356 => ((spec_IsTrueTalk.f kj21 bt352.1 bt352.2.1 bt352.2.2.1 bt352.2.2.2).bind fun bt358 => (if (t328 != t332) = true then (none) else (if t325 = t329 then (if t326 = t330 then (if t327 = t331 then (if (bt333.2 != bt335.2) = true then (none) else (if bt333.1 = bt335.1 then (if (bt340.2 != bt344.2) = true then (none) else ((laws_gSame.f kj21 bt340.1 bt344.1).bind fun t360 => (if t360 = true then (if (bt348.2 != bt350.2) = true then (none) else (if bt348.1 = bt350.1 then (if (bt356.2 != bt358.2) = true then (none) else (if (bt356.1 != bt358.1) = true then (none) else (if bt340.2 = true then (if (bt348.2 != (decide ((bt340.1.length : Int) > 0))) = true then (none) else (if t328 = true then (laws_FnTalksKnow.j5 kj21 t323 t324 t328 bt333.1 bt333.2 bt337.1 bt337.2.1 bt337.2.2 bt340.1 bt348.1 bt348.2 (!bt333.2)) else (laws_FnTalksKnow.j5 kj21 t323 t324 t328 bt333.1 bt333.2 bt337.1 bt337.2.1 bt337.2.2 bt340.1 bt348.1 bt348.2 false))) else (if (bt348.2 != false) = true then (none) else (if t328 = true then (laws_FnTalksKnow.j5 kj21 t323 t324 t328 bt333.1 bt333.2 bt337.1 bt337.2.1 bt337.2.2 bt340.1 bt348.1 bt348.2 (!bt333.2)) else (laws_FnTalksKnow.j5 kj21 t323 t324 t328 bt333.1 bt333.2 bt337.1 bt337.2.1 bt337.2.2 bt340.1 bt348.1 bt348.2 false)))))) else (none))) else (none)))) else (none))) else (none)) else (none)) else (none))))))))))))) = some r := H
       have A126 := Aside0.mk A1260
       clear A1260
       replace H := Option.bind_eq_some_iff.mp H
       obtain ⟨⟨t333, t334⟩, A1270, H⟩ := H
       replace H : ((spec_CountNeverKnown.f kj21 t323 t324).bind fun bt335 => ((spec_DrawLimitsOf.f kj21 l1).bind fun bt337 => ((impl_LimitsOf.f kj21 bt337.1 bt337.2.1 bt337.2.2).bind fun bt340 => ((spec_LimitsOf.f kj21 bt337.1 bt337.2.1 bt337.2.2).bind fun bt344 => ((impl_LeastLimit.f kj21 bt337.1 bt337.2.1 bt337.2.2).bind fun bt348 => ((spec_LeastLimit.f kj21 bt337.1 bt337.2.1 bt337.2.2).bind fun bt350 => ((spec_DrawIsTrueTalk.f kj21 l1).bind fun bt352 => ((impl_IsTrueTalk.f bt352.1 bt352.2.1 bt352.2.2.1 bt352.2.2.2).bind fun bt356 => ((spec_IsTrueTalk.f kj21 bt352.1 bt352.2.1 bt352.2.2.1 bt352.2.2.2).bind fun bt358 => (if (t328 != t332) = true then (none) else (if t325 = t329 then (if t326 = t330 then (if t327 = t331 then (if (t334 != bt335.2) = true then (none) else (if t333 = bt335.1 then (if (bt340.2 != bt344.2) = true then (none) else ((laws_gSame.f kj21 bt340.1 bt344.1).bind fun t360 => (if t360 = true then (if (bt348.2 != bt350.2) = true then (none) else (if bt348.1 = bt350.1 then (if (bt356.2 != bt358.2) = true then (none) else (if (bt356.1 != bt358.1) = true then (none) else (if bt340.2 = true then (if (bt348.2 != (decide ((bt340.1.length : Int) > 0))) = true then (none) else (if t328 = true then (laws_FnTalksKnow.j5 kj21 t323 t324 t328 t333 t334 bt337.1 bt337.2.1 bt337.2.2 bt340.1 bt348.1 bt348.2 (!t334)) else (laws_FnTalksKnow.j5 kj21 t323 t324 t328 t333 t334 bt337.1 bt337.2.1 bt337.2.2 bt340.1 bt348.1 bt348.2 false))) else (if (bt348.2 != false) = true then (none) else (if t328 = true then (laws_FnTalksKnow.j5 kj21 t323 t324 t328 t333 t334 bt337.1 bt337.2.1 bt337.2.2 bt340.1 bt348.1 bt348.2 (!t334)) else (laws_FnTalksKnow.j5 kj21 t323 t324 t328 t333 t334 bt337.1 bt337.2.1 bt337.2.2 bt340.1 bt348.1 bt348.2 false)))))) else (none))) else (none)))) else (none))) else (none)) else (none)) else (none)))))))))))) = some r := H
       have A127 := Aside0.mk A1270
       clear A1270
       replace H := Option.bind_eq_some_iff.mp H
       obtain ⟨⟨t335, t336⟩, A1280, H⟩ := H
       replace H : ((spec_DrawLimitsOf.f kj21 l1).bind fun bt337 => ((impl_LimitsOf.f kj21 bt337.1 bt337.2.1 bt337.2.2).bind fun bt340 => ((spec_LimitsOf.f kj21 bt337.1 bt337.2.1 bt337.2.2).bind fun bt344 => ((impl_LeastLimit.f kj21 bt337.1 bt337.2.1 bt337.2.2).bind fun bt348 => ((spec_LeastLimit.f kj21 bt337.1 bt337.2.1 bt337.2.2).bind fun bt350 => ((spec_DrawIsTrueTalk.f kj21 l1).bind fun bt352 => ((impl_IsTrueTalk.f bt352.1 bt352.2.1 bt352.2.2.1 bt352.2.2.2).bind fun bt356 => ((spec_IsTrueTalk.f kj21 bt352.1 bt352.2.1 bt352.2.2.1 bt352.2.2.2).bind fun bt358 => (if (t328 != t332) = true then (none) else (if t325 = t329 then (if t326 = t330 then (if t327 = t331 then (if (t334 != t336) = true then (none) else (if t333 = t335 then (if (bt340.2 != bt344.2) = true then (none) else ((laws_gSame.f kj21 bt340.1 bt344.1).bind fun t360 => (if t360 = true then (if (bt348.2 != bt350.2) = true then (none) else (if bt348.1 = bt350.1 then (if (bt356.2 != bt358.2) = true then (none) else (if (bt356.1 != bt358.1) = true then (none) else (if bt340.2 = true then (if (bt348.2 != (decide ((bt340.1.length : Int) > 0))) = true then (none) else (if t328 = true then (laws_FnTalksKnow.j5 kj21 t323 t324 t328 t333 t334 bt337.1 bt337.2.1 bt337.2.2 bt340.1 bt348.1 bt348.2 (!t334)) else (laws_FnTalksKnow.j5 kj21 t323 t324 t328 t333 t334 bt337.1 bt337.2.1 bt337.2.2 bt340.1 bt348.1 bt348.2 false))) else (if (bt348.2 != false) = true then (none) else (if t328 = true then (laws_FnTalksKnow.j5 kj21 t323 t324 t328 t333 t334 bt337.1 bt337.2.1 bt337.2.2 bt340.1 bt348.1 bt348.2 (!t334)) else (laws_FnTalksKnow.j5 kj21 t323 t324 t328 t333 t334 bt337.1 bt337.2.1 bt337.2.2 bt340.1 bt348.1 bt348.2 false)))))) else (none))) else (none)))) else (none))) else (none)) else (none)) else (none))))))))))) = some r := H
       have A128 := Aside0.mk A1280
       clear A1280
       replace H := Option.bind_eq_some_iff.mp H
       obtain ⟨⟨t337, t338, t339⟩, A1290, H⟩ := H
       replace H : ((impl_LimitsOf.f kj21 t337 t338 t339).bind fun bt340 => ((spec_LimitsOf.f kj21 t337 t338 t339).bind fun bt344 => ((impl_LeastLimit.f kj21 t337 t338 t339).bind fun bt348 => ((spec_LeastLimit.f kj21 t337 t338 t339).bind fun bt350 => ((spec_DrawIsTrueTalk.f kj21 l1).bind fun bt352 => ((impl_IsTrueTalk.f bt352.1 bt352.2.1 bt352.2.2.1 bt352.2.2.2).bind fun bt356 => ((spec_IsTrueTalk.f kj21 bt352.1 bt352.2.1 bt352.2.2.1 bt352.2.2.2).bind fun bt358 => (if (t328 != t332) = true then (none) else (if t325 = t329 then (if t326 = t330 then (if t327 = t331 then (if (t334 != t336) = true then (none) else (if t333 = t335 then (if (bt340.2 != bt344.2) = true then (none) else ((laws_gSame.f kj21 bt340.1 bt344.1).bind fun t360 => (if t360 = true then (if (bt348.2 != bt350.2) = true then (none) else (if bt348.1 = bt350.1 then (if (bt356.2 != bt358.2) = true then (none) else (if (bt356.1 != bt358.1) = true then (none) else (if bt340.2 = true then (if (bt348.2 != (decide ((bt340.1.length : Int) > 0))) = true then (none) else (if t328 = true then (laws_FnTalksKnow.j5 kj21 t323 t324 t328 t333 t334 t337 t338 t339 bt340.1 bt348.1 bt348.2 (!t334)) else (laws_FnTalksKnow.j5 kj21 t323 t324 t328 t333 t334 t337 t338 t339 bt340.1 bt348.1 bt348.2 false))) else (if (bt348.2 != false) = true then (none) else (if t328 = true then (laws_FnTalksKnow.j5 kj21 t323 t324 t328 t333 t334 t337 t338 t339 bt340.1 bt348.1 bt348.2 (!t334)) else (laws_FnTalksKnow.j5 kj21 t323 t324 t328 t333 t334 t337 t338 t339 bt340.1 bt348.1 bt348.2 false)))))) else (none))) else (none)))) else (none))) else (none)) else (none)) else (none)))))))))) = some r := H
       have A129 := Aside0.mk A1290
       clear A1290
       replace H := Option.bind_eq_some_iff.mp H
       obtain ⟨⟨t340, t341⟩, A1300, H⟩ := H
       replace H : ((spec_LimitsOf.f kj21 t337 t338 t339).bind fun bt344 => ((impl_LeastLimit.f kj21 t337 t338 t339).bind fun bt348 => ((spec_LeastLimit.f kj21 t337 t338 t339).bind fun bt350 => ((spec_DrawIsTrueTalk.f kj21 l1).bind fun bt352 => ((impl_IsTrueTalk.f bt352.1 bt352.2.1 bt352.2.2.1 bt352.2.2.2).bind fun bt356 => ((spec_IsTrueTalk.f kj21 bt352.1 bt352.2.1 bt352.2.2.1 bt352.2.2.2).bind fun bt358 => (if (t328 != t332) = true then (none) else (if t325 = t329 then (if t326 = t330 then (if t327 = t331 then (if (t334 != t336) = true then (none) else (if t333 = t335 then (if (t341 != bt344.2) = true then (none) else ((laws_gSame.f kj21 t340 bt344.1).bind fun t360 => (if t360 = true then (if (bt348.2 != bt350.2) = true then (none) else (if bt348.1 = bt350.1 then (if (bt356.2 != bt358.2) = true then (none) else (if (bt356.1 != bt358.1) = true then (none) else (if t341 = true then (if (bt348.2 != (decide ((t340.length : Int) > 0))) = true then (none) else (if t328 = true then (laws_FnTalksKnow.j5 kj21 t323 t324 t328 t333 t334 t337 t338 t339 t340 bt348.1 bt348.2 (!t334)) else (laws_FnTalksKnow.j5 kj21 t323 t324 t328 t333 t334 t337 t338 t339 t340 bt348.1 bt348.2 false))) else (if (bt348.2 != false) = true then (none) else (if t328 = true then (laws_FnTalksKnow.j5 kj21 t323 t324 t328 t333 t334 t337 t338 t339 t340 bt348.1 bt348.2 (!t334)) else (laws_FnTalksKnow.j5 kj21 t323 t324 t328 t333 t334 t337 t338 t339 t340 bt348.1 bt348.2 false)))))) else (none))) else (none)))) else (none))) else (none)) else (none)) else (none))))))))) = some r := H
       have A130 := Aside0.mk A1300
       clear A1300
       replace H := Option.bind_eq_some_iff.mp H
       obtain ⟨⟨t344, t345⟩, A1310, H⟩ := H
       replace H : ((impl_LeastLimit.f kj21 t337 t338 t339).bind fun bt348 => ((spec_LeastLimit.f kj21 t337 t338 t339).bind fun bt350 => ((spec_DrawIsTrueTalk.f kj21 l1).bind fun bt352 => ((impl_IsTrueTalk.f bt352.1 bt352.2.1 bt352.2.2.1 bt352.2.2.2).bind fun bt356 => ((spec_IsTrueTalk.f kj21 bt352.1 bt352.2.1 bt352.2.2.1 bt352.2.2.2).bind fun bt358 => (if (t328 != t332) = true then (none) else (if t325 = t329 then (if t326 = t330 then (if t327 = t331 then (if (t334 != t336) = true then (none) else (if t333 = t335 then (if (t341 != t345) = true then (none) else ((laws_gSame.f kj21 t340 t344).bind fun t360 => (if t360 = true then (if (bt348.2 != bt350.2) = true then (none) else (if bt348.1 = bt350.1 then (if (bt356.2 != bt358.2) = true then (none) else (if (bt356.1 != bt358.1) = true then (none) else (if t341 = true then (if (bt348.2 != (decide ((t340.length : Int) > 0))) = true then (none) else (if t328 = true then (laws_FnTalksKnow.j5 kj21 t323 t324 t328 t333 t334 t337 t338 t339 t340 bt348.1 bt348.2 (!t334)) else (laws_FnTalksKnow.j5 kj21 t323 t324 t328 t333 t334 t337 t338 t339 t340 bt348.1 bt348.2 false))) else (if (bt348.2 != false) = true then (none) else (if t328 = true then (laws_FnTalksKnow.j5 kj21 t323 t324 t328 t333 t334 t337 t338 t339 t340 bt348.1 bt348.2 (!t334)) else (laws_FnTalksKnow.j5 kj21 t323 t324 t328 t333 t334 t337 t338 t339 t340 bt348.1 bt348.2 false)))))) else (none))) else (none)))) else (none))) else (none)) else (none)) else (none)))))))) = some r := H
       have A131 := Aside0.mk A1310
       clear A1310
       replace H := Option.bind_eq_some_iff.mp H
       obtain ⟨⟨t348, t349⟩, A1320, H⟩ := H
       replace H : ((spec_LeastLimit.f kj21 t337 t338 t339).bind fun bt350 => ((spec_DrawIsTrueTalk.f kj21 l1).bind fun bt352 => ((impl_IsTrueTalk.f bt352.1 bt352.2.1 bt352.2.2.1 bt352.2.2.2).bind fun bt356 => ((spec_IsTrueTalk.f kj21 bt352.1 bt352.2.1 bt352.2.2.1 bt352.2.2.2).bind fun bt358 => (if (t328 != t332) = true then (none) else (if t325 = t329 then (if t326 = t330 then (if t327 = t331 then (if (t334 != t336) = true then (none) else (if t333 = t335 then (if (t341 != t345) = true then (none) else ((laws_gSame.f kj21 t340 t344).bind fun t360 => (if t360 = true then (if (t349 != bt350.2) = true then (none) else (if t348 = bt350.1 then (if (bt356.2 != bt358.2) = true then (none) else (if (bt356.1 != bt358.1) = true then (none) else (if t341 = true then (if (t349 != (decide ((t340.length : Int) > 0))) = true then (none) else (if t328 = true then (laws_FnTalksKnow.j5 kj21 t323 t324 t328 t333 t334 t337 t338 t339 t340 t348 t349 (!t334)) else (laws_FnTalksKnow.j5 kj21 t323 t324 t328 t333 t334 t337 t338 t339 t340 t348 t349 false))) else (if (t349 != false) = true then (none) else (if t328 = true then (laws_FnTalksKnow.j5 kj21 t323 t324 t328 t333 t334 t337 t338 t339 t340 t348 t349 (!t334)) else (laws_FnTalksKnow.j5 kj21 t323 t324 t328 t333 t334 t337 t338 t339 t340 t348 t349 false)))))) else (none))) else (none)))) else (none))) else (none)) else (none)) else (none))))))) = some r := H
       have A132 := Aside0.mk A1320
       clear A1320
       replace H := Option.bind_eq_some_iff.mp H
       obtain ⟨⟨t350, t351⟩, A1330, H⟩ := H
       replace H : ((spec_DrawIsTrueTalk.f kj21 l1).bind fun bt352 => ((impl_IsTrueTalk.f bt352.1 bt352.2.1 bt352.2.2.1 bt352.2.2.2).bind fun bt356 => ((spec_IsTrueTalk.f kj21 bt352.1 bt352.2.1 bt352.2.2.1 bt352.2.2.2).bind fun bt358 => (if (t328 != t332) = true then (none) else (if t325 = t329 then (if t326 = t330 then (if t327 = t331 then (if (t334 != t336) = true then (none) else (if t333 = t335 then (if (t341 != t345) = true then (none) else ((laws_gSame.f kj21 t340 t344).bind fun t360 => (if t360 = true then (if (t349 != t351) = true then (none) else (if t348 = t350 then (if (bt356.2 != bt358.2) = true then (none) else (if (bt356.1 != bt358.1) = true then (none) else (if t341 = true then (if (t349 != (decide ((t340.length : Int) > 0))) = true then (none) else (if t328 = true then (laws_FnTalksKnow.j5 kj21 t323 t324 t328 t333 t334 t337 t338 t339 t340 t348 t349 (!t334)) else (laws_FnTalksKnow.j5 kj21 t323 t324 t328 t333 t334 t337 t338 t339 t340 t348 t349 false))) else (if (t349 != false) = true then (none) else (if t328 = true then (laws_FnTalksKnow.j5 kj21 t323 t324 t328 t333 t334 t337 t338 t339 t340 t348 t349 (!t334)) else (laws_FnTalksKnow.j5 kj21 t323 t324 t328 t333 t334 t337 t338 t339 t340 t348 t349 false)))))) else (none))) else (none)))) else (none))) else (none)) else (none)) else (none)))))) = some r := H
       have A133 := Aside0.mk A1330
       clear A1330
       replace H := Option.bind_eq_some_iff.mp H
       obtain ⟨⟨t352, t353, t354, t355⟩, A1340, H⟩ := H
       replace H : ((impl_IsTrueTalk.f t352 t353 t354 t355).bind fun bt356 => ((spec_IsTrueTalk.f kj21 t352 t353 t354 t355).bind fun bt358 => (if (t328 != t332) = true then (none) else (if t325 = t329 then (if t326 = t330 then (if t327 = t331 then (if (t334 != t336) = true then (none) else (if t333 = t335 then (if (t341 != t345) = true then (none) else ((laws_gSame.f kj21 t340 t344).bind fun t360 => (if t360 = true then (if (t349 != t351) = true then (none) else (if t348 = t350 then (if (bt356.2 != bt358.2) = true then (none) else (if (bt356.1 != bt358.1) = true then (none) else (if t341 = true then (if (t349 != (decide ((t340.length : Int) > 0))) = true then (none) else (if t328 = true then (laws_FnTalksKnow.j5 kj21 t323 t324 t328 t333 t334 t337 t338 t339 t340 t348 t349 (!t334)) else (laws_FnTalksKnow.j5 kj21 t323 t324 t328 t333 t334 t337 t338 t339 t340 t348 t349 false))) else (if (t349 != false) = true then (none) else (if t328 = true then (laws_FnTalksKnow.j5 kj21 t323 t324 t328 t333 t334 t337 t338 t339 t340 t348 t349 (!t334)) else (laws_FnTalksKnow.j5 kj21 t323 t324 t328 t333 t334 t337 t338 t339 t340 t348 t349 false)))))) else (none))) else (none)))) else (none))) else (none)) else (none)) else (none))))) = some r := H
       have A134 := Aside0.mk A1340
       clear A1340
       replace H := Option.bind_eq_some_iff.mp H
       obtain ⟨⟨t356, t357⟩, A1350, H⟩ := H
       replace H : ((spec_IsTrueTalk.f kj21 t352 t353 t354 t355).bind fun bt358 => (if (t328 != t332) = true then (none) else (if t325 = t329 then (if t326 = t330 then (if t327 = t331 then (if (t334 != t336) = true then (none) else (if t333 = t335 then (if (t341 != t345) = true then (none) else ((laws_gSame.f kj21 t340 t344).bind fun t360 => (if t360 = true then (if (t349 != t351) = true then (none) else (if t348 = t350 then (if (t357 != bt358.2) = true then (none) else (if (t356 != bt358.1) = true then (none) else (if t341 = true then (if (t349 != (decide ((t340.length : Int) > 0))) = true then (none) else (if t328 = true then (laws_FnTalksKnow.j5 kj21 t323 t324 t328 t333 t334 t337 t338 t339 t340 t348 t349 (!t334)) else (laws_FnTalksKnow.j5 kj21 t323 t324 t328 t333 t334 t337 t338 t339 t340 t348 t349 false))) else (if (t349 != false) = true then (none) else (if t328 = true then (laws_FnTalksKnow.j5 kj21 t323 t324 t328 t333 t334 t337 t338 t339 t340 t348 t349 (!t334)) else (laws_FnTalksKnow.j5 kj21 t323 t324 t328 t333 t334 t337 t338 t339 t340 t348 t349 false)))))) else (none))) else (none)))) else (none))) else (none)) else (none)) else (none)))) = some r := H
       have A135 := Aside0.mk A1350
       clear A1350
       replace H := Option.bind_eq_some_iff.mp H
       obtain ⟨⟨t358, t359⟩, A1360, H⟩ := H
       replace H : (if (t328 != t332) = true then (none) else (if t325 = t329 then (if t326 = t330 then (if t327 = t331 then (if (t334 != t336) = true then (none) else (if t333 = t335 then (if (t341 != t345) = true then (none) else ((laws_gSame.f kj21 t340 t344).bind fun t360 => (if t360 = true then (if (t349 != t351) = true then (none) else (if t348 = t350 then (if (t357 != t359) = true then (none) else (if (t356 != t358) = true then (none) else (if t341 = true then (if (t349 != (decide ((t340.length : Int) > 0))) = true then (none) else (if t328 = true then (laws_FnTalksKnow.j5 kj21 t323 t324 t328 t333 t334 t337 t338 t339 t340 t348 t349 (!t334)) else (laws_FnTalksKnow.j5 kj21 t323 t324 t328 t333 t334 t337 t338 t339 t340 t348 t349 false))) else (if (t349 != false) = true then (none) else (if t328 = true then (laws_FnTalksKnow.j5 kj21 t323 t324 t328 t333 t334 t337 t338 t339 t340 t348 t349 (!t334)) else (laws_FnTalksKnow.j5 kj21 t323 t324 t328 t333 t334 t337 t338 t339 t340 t348 t349 false)))))) else (none))) else (none)))) else (none))) else (none)) else (none)) else (none))) = some r := H
       have A136 := Aside0.mk A1360
       clear A1360
       have HC137 := Aside0.mk H
       clear H
       go_upto_region 40 with (first | (go_at_call 41; (with_reducible refine (spec_DrawLongestTalk.calls _ _ l1 t323 t324 _ ?side1 ?side2 A124.out).mono ?_); (case side1 => repeat (first | exact (Kd.C_below HR1.out HB.out) | (with_reducible refine Kd.C_alloc ?_ _) | (with_reducible refine Kd.C_drewN ?_ _) | (with_reducible refine Kd.C_drew ?_))); (case side2 => exact HC1.out); rintro e w138 ⟨rfl, hb⟩; have n0_ := kH HB hb; replace HB := n0_; clear n0_; (try clear hb)) | (go_at_call 39; (with_reducible refine (impl_LongestTalk.calls t323 t324 t325 t326 t327 t328 _ A125.out).mono ?_); rintro e w139 ⟨rfl, hb⟩; have n0_ := kH HB hb; replace HB := n0_; clear n0_; (try clear hb)) | (go_at_call 42; (with_reducible refine (spec_LongestTalk.calls kj21 t323 t324 t329 t330 t331 t332 _ A126.out).mono ?_); rintro e w140 ⟨rfl, hb⟩; have n0_ := kH HB hb; replace HB := n0_; clear n0_; (try clear hb)) | (go_at_call 43; (with_reducible refine (impl_CountNeverKnown.calls t323 t324 t333 t334 _ A127.out).mono ?_); rintro e w141 ⟨rfl, hb⟩; have n0_ := kH HB hb; replace HB := n0_; clear n0_; (try clear hb)) | (go_at_call 44; (with_reducible refine (spec_CountNeverKnown.calls kj21 t323 t324 t335 t336 _ A128.out).mono ?_); rintro e w142 ⟨rfl, hb⟩; have n0_ := kH HB hb; replace HB := n0_; clear n0_; (try clear hb)) | (go_at_call 45; (with_reducible refine (spec_DrawLimitsOf.calls kj21 _ _ l1 t337 t338 t339 _ ?side1 ?side2 A129.out).mono ?_); (case side1 => repeat (first | exact (Kd.C_below HR1.out HB.out) | (with_reducible refine Kd.C_alloc ?_ _) | (with_reducible refine Kd.C_drewN ?_ _) | (with_reducible refine Kd.C_drew ?_))); (case side2 => exact HC1.out); rintro e w143 ⟨rfl, hb⟩; have n0_ := kH HB hb; replace HB := n0_; clear n0_; (try clear hb)) | (go_at_call 24; (with_reducible refine (impl_LimitsOf.calls kj21 t337 t338 t339 t340 t341 _ A130.out).mono ?_); rintro e w144 ⟨v342, rfl, ho0, hb⟩; have n0_ := Aside0.mk (Kd.R_lower ho0 (below_size kO)); have n1_ := kH HB hb; clear HB; have HO343 := n0_; have HB := n1_; clear n0_ n1_; (try clear hb); (try clear ho0)) | (go_at_call 23; (with_reducible refine (spec_LimitsOf.calls kj21 t337 t338 t339 t344 t345 _ A131.out).mono ?_); rintro e w145 ⟨v346, rfl, ho0, hb⟩; have n0_ := Aside0.mk (Kd.R_elder' (by (with_reducible repeat (first | apply Kd.R_alloc | apply Kd.R_drewN | apply Kd.R_drew)); exact HO343.out) (Kd.R_base ho0) hb); have n1_ := Aside0.mk (Kd.R_lower (Kd.R_new' ho0 (Kd.R_lt (by (with_reducible repeat (first | apply Kd.R_alloc | apply Kd.R_drewN | apply Kd.R_drew)); exact HO343.out))) (below_size kO)); have n2_ := kH HB hb; clear HO343; clear HB; have HO343 := n0_; have HO347 := n1_; have HB := n2_; clear n0_ n1_ n2_; (try clear hb); (try clear ho0)) | (go_at_call 12; (with_reducible refine (impl_LeastLimit.calls kj21 t337 t338 t339 t348 t349 _ A132.out).mono ?_); rintro e w146 ⟨rfl, hb⟩; have n0_ := Aside0.mk (Kd.R_below (by (with_reducible repeat (first | apply Kd.R_alloc | apply Kd.R_drewN | apply Kd.R_drew)); exact HO343.out) hb); have n1_ := Aside0.mk (Kd.R_below (by (with_reducible repeat (first | apply Kd.R_alloc | apply Kd.R_drewN | apply Kd.R_drew)); exact HO347.out) hb); have n2_ := kH HB hb; clear HO343; clear HO347; clear HB; have HO343 := n0_; have HO347 := n1_; have HB := n2_; clear n0_ n1_ n2_; (try clear hb)) | (go_at_call 11; (with_reducible refine (spec_LeastLimit.calls kj21 t337 t338 t339 t350 t351 _ A133.out).mono ?_); rintro e w147 ⟨rfl, hb⟩; have n0_ := Aside0.mk (Kd.R_below (by (with_reducible repeat (first | apply Kd.R_alloc | apply Kd.R_drewN | apply Kd.R_drew)); exact HO343.out) hb); have n1_ := Aside0.mk (Kd.R_below (by (with_reducible repeat (first | apply Kd.R_alloc | apply Kd.R_drewN | apply Kd.R_drew)); exact HO347.out) hb); have n2_ := kH HB hb; clear HO343; clear HO347; clear HB; have HO343 := n0_; have HO347 := n1_; have HB := n2_; clear n0_ n1_ n2_; (try clear hb)) | (go_at_call 46; (with_reducible refine (spec_DrawIsTrueTalk.calls kj21 _ _ l1 t352 t353 t354 t355 _ ?side1 ?side2 A134.out).mono ?_); (case side1 => repeat (first | exact (Kd.C_below HR1.out HB.out) | (with_reducible refine Kd.C_alloc ?_ _) | (with_reducible refine Kd.C_drewN ?_ _) | (with_reducible refine Kd.C_drew ?_))); (case side2 => exact HC1.out); rintro e w148 ⟨rfl, hb⟩; have n0_ := Aside0.mk (Kd.R_below (by (with_reducible repeat (first | apply Kd.R_alloc | apply Kd.R_drewN | apply Kd.R_drew)); exact HO343.out) hb); have n1_ := Aside0.mk (Kd.R_below (by (with_reducible repeat (first | apply Kd.R_alloc | apply Kd.R_drewN | apply Kd.R_drew)); exact HO347.out) hb); have n2_ := kH HB hb; clear HO343; clear HO347; clear HB; have HO343 := n0_; have HO347 := n1_; have HB := n2_; clear n0_ n1_ n2_; (try clear hb)) | (go_at_call 38; (with_reducible refine (impl_IsTrueTalk.calls t352 t353 t354 t355 t356 t357 _ A135.out).mono ?_); rintro e w149 ⟨rfl, hb⟩; have n0_ := Aside0.mk (Kd.R_below (by (with_reducible repeat (first | apply Kd.R_alloc | apply Kd.R_drewN | apply Kd.R_drew)); exact HO343.out) hb); have n1_ := Aside0.mk (Kd.R_below (by (with_reducible repeat (first | apply Kd.R_alloc | apply Kd.R_drewN | apply Kd.R_drew)); exact HO347.out) hb); have n2_ := kH HB hb; clear HO343; clear HO347; clear HB; have HO343 := n0_; have HO347 := n1_; have HB := n2_; clear n0_ n1_ n2_; (try clear hb)) | (go_at_call 47; (with_reducible refine (spec_IsTrueTalk.calls kj21 t352 t353 t354 t355 t358 t359 _ A136.out).mono ?_); rintro e w150 ⟨rfl, hb⟩; have n0_ := Aside0.mk (Kd.R_below (by (with_reducible repeat (first | apply Kd.R_alloc | apply Kd.R_drewN | apply Kd.R_drew)); exact HO343.out) hb); have n1_ := Aside0.mk (Kd.R_below (by (with_reducible repeat (first | apply Kd.R_alloc | apply Kd.R_drewN | apply Kd.R_drew)); exact HO347.out) hb); have n2_ := kH HB hb; clear HO343; clear HO347; clear HB; have HO343 := n0_; have HO347 := n1_; have HB := n2_; clear n0_ n1_ n2_; (try clear hb)))
       repeat (go_quiet (first | (go_at_call 41; (with_reducible refine (spec_DrawLongestTalk.calls _ _ l1 t323 t324 _ ?side1 ?side2 A124.out).mono ?_); (case side1 => repeat (first | exact (Kd.C_below HR1.out HB.out) | (with_reducible refine Kd.C_alloc ?_ _) | (with_reducible refine Kd.C_drewN ?_ _) | (with_reducible refine Kd.C_drew ?_))); (case side2 => exact HC1.out); rintro e w138 ⟨rfl, hb⟩; have n0_ := kH HB hb; replace HB := n0_; clear n0_; (try clear hb)) | (go_at_call 39; (with_reducible refine (impl_LongestTalk.calls t323 t324 t325 t326 t327 t328 _ A125.out).mono ?_); rintro e w139 ⟨rfl, hb⟩; have n0_ := kH HB hb; replace HB := n0_; clear n0_; (try clear hb)) | (go_at_call 42; (with_reducible refine (spec_LongestTalk.calls kj21 t323 t324 t329 t330 t331 t332 _ A126.out).mono ?_); rintro e w140 ⟨rfl, hb⟩; have n0_ := kH HB hb; replace HB := n0_; clear n0_; (try clear hb)) | (go_at_call 43; (with_reducible refine (impl_CountNeverKnown.calls t323 t324 t333 t334 _ A127.out).mono ?_); rintro e w141 ⟨rfl, hb⟩; have n0_ := kH HB hb; replace HB := n0_; clear n0_; (try clear hb)) | (go_at_call 44; (with_reducible refine (spec_CountNeverKnown.calls kj21 t323 t324 t335 t336 _ A128.out).mono ?_); rintro e w142 ⟨rfl, hb⟩; have n0_ := kH HB hb; replace HB := n0_; clear n0_; (try clear hb)) | (go_at_call 45; (with_reducible refine (spec_DrawLimitsOf.calls kj21 _ _ l1 t337 t338 t339 _ ?side1 ?side2 A129.out).mono ?_); (case side1 => repeat (first | exact (Kd.C_below HR1.out HB.out) | (with_reducible refine Kd.C_alloc ?_ _) | (with_reducible refine Kd.C_drewN ?_ _) | (with_reducible refine Kd.C_drew ?_))); (case side2 => exact HC1.out); rintro e w143 ⟨rfl, hb⟩; have n0_ := kH HB hb; replace HB := n0_; clear n0_; (try clear hb)) | (go_at_call 24; (with_reducible refine (impl_LimitsOf.calls kj21 t337 t338 t339 t340 t341 _ A130.out).mono ?_); rintro e w144 ⟨v342, rfl, ho0, hb⟩; have n0_ := Aside0.mk (Kd.R_lower ho0 (below_size kO)); have n1_ := kH HB hb; clear HB; have HO343 := n0_; have HB := n1_; clear n0_ n1_; (try clear hb); (try clear ho0)) | (go_at_call 23; (with_reducible refine (spec_LimitsOf.calls kj21 t337 t338 t339 t344 t345 _ A131.out).mono ?_); rintro e w145 ⟨v346, rfl, ho0, hb⟩; have n0_ := Aside0.mk (Kd.R_elder' (by (with_reducible repeat (first | apply Kd.R_alloc | apply Kd.R_drewN | apply Kd.R_drew)); exact HO343.out) (Kd.R_base ho0) hb); have n1_ := Aside0.mk (Kd.R_lower (Kd.R_new' ho0 (Kd.R_lt (by (with_reducible repeat (first | apply Kd.R_alloc | apply Kd.R_drewN | apply Kd.R_drew)); exact HO343.out))) (below_size kO)); have n2_ := kH HB hb; clear HO343; clear HB; have HO343 := n0_; have HO347 := n1_; have HB := n2_; clear n0_ n1_ n2_; (try clear hb); (try clear ho0)) | (go_at_call 12; (with_reducible refine (impl_LeastLimit.calls kj21 t337 t338 t339 t348 t349 _ A132.out).mono ?_); rintro e w146 ⟨rfl, hb⟩; have n0_ := Aside0.mk (Kd.R_below (by (with_reducible repeat (first | apply Kd.R_alloc | apply Kd.R_drewN | apply Kd.R_drew)); exact HO343.out) hb); have n1_ := Aside0.mk (Kd.R_below (by (with_reducible repeat (first | apply Kd.R_alloc | apply Kd.R_drewN | apply Kd.R_drew)); exact HO347.out) hb); have n2_ := kH HB hb; clear HO343; clear HO347; clear HB; have HO343 := n0_; have HO347 := n1_; have HB := n2_; clear n0_ n1_ n2_; (try clear hb)) | (go_at_call 11; (with_reducible refine (spec_LeastLimit.calls kj21 t337 t338 t339 t350 t351 _ A133.out).mono ?_); rintro e w147 ⟨rfl, hb⟩; have n0_ := Aside0.mk (Kd.R_below (by (with_reducible repeat (first | apply Kd.R_alloc | apply Kd.R_drewN | apply Kd.R_drew)); exact HO343.out) hb); have n1_ := Aside0.mk (Kd.R_below (by (with_reducible repeat (first | apply Kd.R_alloc | apply Kd.R_drewN | apply Kd.R_drew)); exact HO347.out) hb); have n2_ := kH HB hb; clear HO343; clear HO347; clear HB; have HO343 := n0_; have HO347 := n1_; have HB := n2_; clear n0_ n1_ n2_; (try clear hb)) | (go_at_call 46; (with_reducible refine (spec_DrawIsTrueTalk.calls kj21 _ _ l1 t352 t353 t354 t355 _ ?side1 ?side2 A134.out).mono ?_); (case side1 => repeat (first | exact (Kd.C_below HR1.out HB.out) | (with_reducible refine Kd.C_alloc ?_ _) | (with_reducible refine Kd.C_drewN ?_ _) | (with_reducible refine Kd.C_drew ?_))); (case side2 => exact HC1.out); rintro e w148 ⟨rfl, hb⟩; have n0_ := Aside0.mk (Kd.R_below (by (with_reducible repeat (first | apply Kd.R_alloc | apply Kd.R_drewN | apply Kd.R_drew)); exact HO343.out) hb); have n1_ := Aside0.mk (Kd.R_below (by (with_reducible repeat (first | apply Kd.R_alloc | apply Kd.R_drewN | apply Kd.R_drew)); exact HO347.out) hb); have n2_ := kH HB hb; clear HO343; clear HO347; clear HB; have HO343 := n0_; have HO347 := n1_; have HB := n2_; clear n0_ n1_ n2_; (try clear hb)) | (go_at_call 38; (with_reducible refine (impl_IsTrueTalk.calls t352 t353 t354 t355 t356 t357 _ A135.out).mono ?_); rintro e w149 ⟨rfl, hb⟩; have n0_ := Aside0.mk (Kd.R_below (by (with_reducible repeat (first | apply Kd.R_alloc | apply Kd.R_drewN | apply Kd.R_drew)); exact HO343.out) hb); have n1_ := Aside0.mk (Kd.R_below (by (with_reducible repeat (first | apply Kd.R_alloc | apply Kd.R_drewN | apply Kd.R_drew)); exact HO347.out) hb); have n2_ := kH HB hb; clear HO343; clear HO347; clear HB; have HO343 := n0_; have HO347 := n1_; have HB := n2_; clear n0_ n1_ n2_; (try clear hb)) | (go_at_call 47; (with_reducible refine (spec_IsTrueTalk.calls kj21 t352 t353 t354 t355 t358 t359 _ A136.out).mono ?_); rintro e w150 ⟨rfl, hb⟩; have n0_ := Aside0.mk (Kd.R_below (by (with_reducible repeat (first | apply Kd.R_alloc | apply Kd.R_drewN | apply Kd.R_drew)); exact HO343.out) hb); have n1_ := Aside0.mk (Kd.R_below (by (with_reducible repeat (first | apply Kd.R_alloc | apply Kd.R_drewN | apply Kd.R_drew)); exact HO347.out) hb); have n2_ := kH HB hb; clear HO343; clear HO347; clear HB; have HO343 := n0_; have HO347 := n1_; have HB := n2_; clear n0_ n1_ n2_; (try clear hb))); go_upto_region 40 with (first | (go_at_call 41; (with_reducible refine (spec_DrawLongestTalk.calls _ _ l1 t323 t324 _ ?side1 ?side2 A124.out).mono ?_); (case side1 => repeat (first | exact (Kd.C_below HR1.out HB.out) | (with_reducible refine Kd.C_alloc ?_ _) | (with_reducible refine Kd.C_drewN ?_ _) | (with_reducible refine Kd.C_drew ?_))); (case side2 => exact HC1.out); rintro e w138 ⟨rfl, hb⟩; have n0_ := kH HB hb; replace HB := n0_; clear n0_; (try clear hb)) | (go_at_call 39; (with_reducible refine (impl_LongestTalk.calls t323 t324 t325 t326 t327 t328 _ A125.out).mono ?_); rintro e w139 ⟨rfl, hb⟩; have n0_ := kH HB hb; replace HB := n0_; clear n0_; (try clear hb)) | (go_at_call 42; (with_reducible refine (spec_LongestTalk.calls kj21 t323 t324 t329 t330 t331 t332 _ A126.out).mono ?_); rintro e w140 ⟨rfl, hb⟩; have n0_ := kH HB hb; replace HB := n0_; clear n0_; (try clear hb)) | (go_at_call 43; (with_reducible refine (impl_CountNeverKnown.calls t323 t324 t333 t334 _ A127.out).mono ?_); rintro e w141 ⟨rfl, hb⟩; have n0_ := kH HB hb; replace HB := n0_; clear n0_; (try clear hb)) | (go_at_call 44; (with_reducible refine (spec_CountNeverKnown.calls kj21 t323 t324 t335 t336 _ A128.out).mono ?_); rintro e w142 ⟨rfl, hb⟩; have n0_ := kH HB hb; replace HB := n0_; clear n0_; (try clear hb)) | (go_at_call 45; (with_reducible refine (spec_DrawLimitsOf.calls kj21 _ _ l1 t337 t338 t339 _ ?side1 ?side2 A129.out).mono ?_); (case side1 => repeat (first | exact (Kd.C_below HR1.out HB.out) | (with_reducible refine Kd.C_alloc ?_ _) | (with_reducible refine Kd.C_drewN ?_ _) | (with_reducible refine Kd.C_drew ?_))); (case side2 => exact HC1.out); rintro e w143 ⟨rfl, hb⟩; have n0_ := kH HB hb; replace HB := n0_; clear n0_; (try clear hb)) | (go_at_call 24; (with_reducible refine (impl_LimitsOf.calls kj21 t337 t338 t339 t340 t341 _ A130.out).mono ?_); rintro e w144 ⟨v342, rfl, ho0, hb⟩; have n0_ := Aside0.mk (Kd.R_lower ho0 (below_size kO)); have n1_ := kH HB hb; clear HB; have HO343 := n0_; have HB := n1_; clear n0_ n1_; (try clear hb); (try clear ho0)) | (go_at_call 23; (with_reducible refine (spec_LimitsOf.calls kj21 t337 t338 t339 t344 t345 _ A131.out).mono ?_); rintro e w145 ⟨v346, rfl, ho0, hb⟩; have n0_ := Aside0.mk (Kd.R_elder' (by (with_reducible repeat (first | apply Kd.R_alloc | apply Kd.R_drewN | apply Kd.R_drew)); exact HO343.out) (Kd.R_base ho0) hb); have n1_ := Aside0.mk (Kd.R_lower (Kd.R_new' ho0 (Kd.R_lt (by (with_reducible repeat (first | apply Kd.R_alloc | apply Kd.R_drewN | apply Kd.R_drew)); exact HO343.out))) (below_size kO)); have n2_ := kH HB hb; clear HO343; clear HB; have HO343 := n0_; have HO347 := n1_; have HB := n2_; clear n0_ n1_ n2_; (try clear hb); (try clear ho0)) | (go_at_call 12; (with_reducible refine (impl_LeastLimit.calls kj21 t337 t338 t339 t348 t349 _ A132.out).mono ?_); rintro e w146 ⟨rfl, hb⟩; have n0_ := Aside0.mk (Kd.R_below (by (with_reducible repeat (first | apply Kd.R_alloc | apply Kd.R_drewN | apply Kd.R_drew)); exact HO343.out) hb); have n1_ := Aside0.mk (Kd.R_below (by (with_reducible repeat (first | apply Kd.R_alloc | apply Kd.R_drewN | apply Kd.R_drew)); exact HO347.out) hb); have n2_ := kH HB hb; clear HO343; clear HO347; clear HB; have HO343 := n0_; have HO347 := n1_; have HB := n2_; clear n0_ n1_ n2_; (try clear hb)) | (go_at_call 11; (with_reducible refine (spec_LeastLimit.calls kj21 t337 t338 t339 t350 t351 _ A133.out).mono ?_); rintro e w147 ⟨rfl, hb⟩; have n0_ := Aside0.mk (Kd.R_below (by (with_reducible repeat (first | apply Kd.R_alloc | apply Kd.R_drewN | apply Kd.R_drew)); exact HO343.out) hb); have n1_ := Aside0.mk (Kd.R_below (by (with_reducible repeat (first | apply Kd.R_alloc | apply Kd.R_drewN | apply Kd.R_drew)); exact HO347.out) hb); have n2_ := kH HB hb; clear HO343; clear HO347; clear HB; have HO343 := n0_; have HO347 := n1_; have HB := n2_; clear n0_ n1_ n2_; (try clear hb)) | (go_at_call 46; (with_reducible refine (spec_DrawIsTrueTalk.calls kj21 _ _ l1 t352 t353 t354 t355 _ ?side1 ?side2 A134.out).mono ?_); (case side1 => repeat (first | exact (Kd.C_below HR1.out HB.out) | (with_reducible refine Kd.C_alloc ?_ _) | (with_reducible refine Kd.C_drewN ?_ _) | (with_reducible refine Kd.C_drew ?_))); (case side2 => exact HC1.out); rintro e w148 ⟨rfl, hb⟩; have n0_ := Aside0.mk (Kd.R_below (by (with_reducible repeat (first | apply Kd.R_alloc | apply Kd.R_drewN | apply Kd.R_drew)); exact HO343.out) hb); have n1_ := Aside0.mk (Kd.R_below (by (with_reducible repeat (first | apply Kd.R_alloc | apply Kd.R_drewN | apply Kd.R_drew)); exact HO347.out) hb); have n2_ := kH HB hb; clear HO343; clear HO347; clear HB; have HO343 := n0_; have HO347 := n1_; have HB := n2_; clear n0_ n1_ n2_; (try clear hb)) | (go_at_call 38; (with_reducible refine (impl_IsTrueTalk.calls t352 t353 t354 t355 t356 t357 _ A135.out).mono ?_); rintro e w149 ⟨rfl, hb⟩; have n0_ := Aside0.mk (Kd.R_below (by (with_reducible repeat (first | apply Kd.R_alloc | apply Kd.R_drewN | apply Kd.R_drew)); exact HO343.out) hb); have n1_ := Aside0.mk (Kd.R_below (by (with_reducible repeat (first | apply Kd.R_alloc | apply Kd.R_drewN | apply Kd.R_drew)); exact HO347.out) hb); have n2_ := kH HB hb; clear HO343; clear HO347; clear HB; have HO343 := n0_; have HO347 := n1_; have HB := n2_; clear n0_ n1_ n2_; (try clear hb)) | (go_at_call 47; (with_reducible refine (spec_IsTrueTalk.calls kj21 t352 t353 t354 t355 t358 t359 _ A136.out).mono ?_); rintro e w150 ⟨rfl, hb⟩; have n0_ := Aside0.mk (Kd.R_below (by (with_reducible repeat (first | apply Kd.R_alloc | apply Kd.R_drewN | apply Kd.R_drew)); exact HO343.out) hb); have n1_ := Aside0.mk (Kd.R_below (by (with_reducible repeat (first | apply Kd.R_alloc | apply Kd.R_drewN | apply Kd.R_drew)); exact HO347.out) hb); have n2_ := kH HB hb; clear HO343; clear HO347; clear HB; have HO343 := n0_; have HO347 := n1_; have HB := n2_; clear n0_ n1_ n2_; (try clear hb))))
       (try simp only [Act.put, List.setIfInBounds_toArray, List.set_cons_zero, List.set_cons_succ])
       go_cut [474] from 1 to 0 (fun v474 wc => ∃ (kq : Nat) (x474_136 : Bool), v474 = .bool x474_136 ∧ Aside0 (laws_FnTalksKnow.j5 kq t323 t324 t328 t333 t334 t337 t338 t339 t340 t348 t349 x474_136 = some r) ∧ Aside0 (kq ≤ kj21) ∧ Aside0 (Kd.R (Kd.int .i64) 3 wc w.heap.size (fun _ => True) v342 t340) ∧ Aside0 (Below w.heap.size w wc))
       case first =>
        as_aux_lemma =>
         try simp only [List.append]
         have H := HC137.out
         clear HC137
         by_cases c151 : (t328 != t332) = true
         ·rw [if_pos c151] at H
          exact absurd H (by simp)
         ·rw [if_neg c151] at H
          have c151b0 : (t328 != t332) = false := by simpa using c151
          (try (have c151b1 : decide (t328 = t332) = true := by simpa using c151))
          (try (have c151b2 : (t328 == t332) = true := by simpa using c151))
          clear c151
          (first | rw [c151b0] | (simp only [i64_w, i32_w]; rw [c151b0]) | skip)
          by_cases c152 : t325 = t329
          ·rw [if_pos c152] at H
           have c152b0 : (t325 == t329) = true := beq_iff_eq.mpr c152
           have c152b1 : (t325 != t329) = false := bne_eq_false_iff_eq.mpr c152
           clear c152
           by_cases c153 : t326 = t330
           ·rw [if_pos c153] at H
            have c153b0 : (t326 == t330) = true := beq_iff_eq.mpr c153
            have c153b1 : (t326 != t330) = false := bne_eq_false_iff_eq.mpr c153
            clear c153
            by_cases c154 : t327 = t331
            ·rw [if_pos c154] at H
             have c154b0 : (t327 == t331) = true := beq_iff_eq.mpr c154
             have c154b1 : (t327 != t331) = false := bne_eq_false_iff_eq.mpr c154
             clear c154
             by_cases c155 : (t334 != t336) = true
             ·rw [if_pos c155] at H
              exact absurd H (by simp)
             ·rw [if_neg c155] at H
              have c155b0 : (t334 != t336) = false := by simpa using c155
              (try (have c155b1 : decide (t334 = t336) = true := by simpa using c155))
              (try (have c155b2 : (t334 == t336) = true := by simpa using c155))
              clear c155
              by_cases c156 : t333 = t335
              ·rw [if_pos c156] at H
               have c156b0 : (t333 == t335) = true := beq_iff_eq.mpr c156
               have c156b1 : (t333 != t335) = false := bne_eq_false_iff_eq.mpr c156
               clear c156
               by_cases c157 : (t341 != t345) = true
               ·rw [if_pos c157] at H
                exact absurd H (by simp)
               ·rw [if_neg c157] at H
                have c157b0 : (t341 != t345) = false := by simpa using c157
                (try (have c157b1 : decide (t341 = t345) = true := by simpa using c157))
                (try (have c157b2 : (t341 == t345) = true := by simpa using c157))
                clear c157
                replace H := Option.bind_eq_some_iff.mp H
                obtain ⟨t360, A1580, H⟩ := H
                replace H : (if t360 = true then (if (t349 != t351) = true then (none) else (if t348 = t350 then (if (t357 != t359) = true then (none) else (if (t356 != t358) = true then (none) else (if t341 = true then (if (t349 != (decide ((t340.length : Int) > 0))) = true then (none) else (if t328 = true then (laws_FnTalksKnow.j5 kj21 t323 t324 t328 t333 t334 t337 t338 t339 t340 t348 t349 (!t334)) else (laws_FnTalksKnow.j5 kj21 t323 t324 t328 t333 t334 t337 t338 t339 t340 t348 t349 false))) else (if (t349 != false) = true then (none) else (if t328 = true then (laws_FnTalksKnow.j5 kj21 t323 t324 t328 t333 t334 t337 t338 t339 t340 t348 t349 (!t334)) else (laws_FnTalksKnow.j5 kj21 t323 t324 t328 t333 t334 t337 t338 t339 t340 t348 t349 false)))))) else (none))) else (none)) = some r := H
                have A158 := Aside0.mk A1580
                clear A1580
                by_cases c159 : t360 = true
                ·subst c159
                 have H1 : (if (t349 != t351) = true then (none) else (if t348 = t350 then (if (t357 != t359) = true then (none) else (if (t356 != t358) = true then (none) else (if t341 = true then (if (t349 != (decide ((t340.length : Int) > 0))) = true then (none) else (if t328 = true then (laws_FnTalksKnow.j5 kj21 t323 t324 t328 t333 t334 t337 t338 t339 t340 t348 t349 (!t334)) else (laws_FnTalksKnow.j5 kj21 t323 t324 t328 t333 t334 t337 t338 t339 t340 t348 t349 false))) else (if (t349 != false) = true then (none) else (if t328 = true then (laws_FnTalksKnow.j5 kj21 t323 t324 t328 t333 t334 t337 t338 t339 t340 t348 t349 (!t334)) else (laws_FnTalksKnow.j5 kj21 t323 t324 t328 t333 t334 t337 t338 t339 t340 t348 t349 false)))))) else (none))) = some r := by rw [if_pos rfl] at H; exact H
                 clear H
                 have H := H1
                 clear H1
                 by_cases c160 : (t349 != t351) = true
                 ·rw [if_pos c160] at H
                  exact absurd H (by simp)
                 ·rw [if_neg c160] at H
                  have c160b0 : (t349 != t351) = false := by simpa using c160
                  (try (have c160b1 : decide (t349 = t351) = true := by simpa using c160))
                  (try (have c160b2 : (t349 == t351) = true := by simpa using c160))
                  clear c160
                  by_cases c161 : t348 = t350
                  ·rw [if_pos c161] at H
                   have c161b0 : (t348 == t350) = true := beq_iff_eq.mpr c161
                   have c161b1 : (t348 != t350) = false := bne_eq_false_iff_eq.mpr c161
                   clear c161
                   by_cases c162 : (t357 != t359) = true
                   ·rw [if_pos c162] at H
                    exact absurd H (by simp)
                   ·rw [if_neg c162] at H
                    have c162b0 : (t357 != t359) = false := by simpa using c162
                    (try (have c162b1 : decide (t357 = t359) = true := by simpa using c162))
                    (try (have c162b2 : (t357 == t359) = true := by simpa using c162))
                    clear c162
                    by_cases c163 : (t356 != t358) = true
                    ·rw [if_pos c163] at H
                     exact absurd H (by simp)
                    ·rw [if_neg c163] at H
                     have c163b0 : (t356 != t358) = false := by simpa using c163
                     (try (have c163b1 : decide (t356 = t358) = true := by simpa using c163))
                     (try (have c163b2 : (t356 == t358) = true := by simpa using c163))
                     clear c163
                     by_cases c164 : t341 = true
                     ·subst c164
                      have H1 : (if (t349 != (decide ((t340.length : Int) > 0))) = true then (none) else (if t328 = true then (laws_FnTalksKnow.j5 kj21 t323 t324 t328 t333 t334 t337 t338 t339 t340 t348 t349 (!t334)) else (laws_FnTalksKnow.j5 kj21 t323 t324 t328 t333 t334 t337 t338 t339 t340 t348 t349 false))) = some r := by rw [if_pos rfl] at H; exact H
                      clear H
                      have H := H1
                      clear H1
                      by_cases c165 : (t349 != (decide ((t340.length : Int) > 0))) = true
                      ·rw [if_pos c165] at H
                       exact absurd H (by simp)
                      ·rw [if_neg c165] at H
                       have c165e : t349 = decide ((t340.length : Int) > 0) := by simpa using c165
                       have c165b0 : decide (0 < (t340.length : Int)) = t349 := c165e.symm
                       have c165b1 : decide (0 < t340.length) = t349 := by rw [c165e]; rw [decide_eq_decide]; omega
                       clear c165e
                       clear c165
                       by_cases c166 : t328 = true
                       ·subst c166
                        have H1 : (laws_FnTalksKnow.j5 kj21 t323 t324 true t333 t334 t337 t338 t339 t340 t348 t349 (!t334)) = some r := by rw [if_pos rfl] at H; exact H
                        clear H
                        have H := H1
                        clear H1
                        have H' := Aside0.mk H
                        clear H
                        obtain ⟨Ao167, co167, eo167⟩ := Kd.R_slice HO343.out
                        subst eo167
                        obtain ⟨Ao168, co168, eo168⟩ := Kd.R_slice HO347.out
                        subst eo168
                        go_wp2_with (first | (go_at_call 48; (with_reducible refine (laws_gSame.calls kj21 _ _ t340 _ _ t344 true _ ?side1 ?side2 ?side3 ?side4 A158.out).mono ?_); (case side1 => repeat (first | exact (Kd.R_reads' HO343.out).2.2 | (with_reducible refine Kd.C_alloc ?_ _) | (with_reducible refine Kd.C_drewN ?_ _) | (with_reducible refine Kd.C_drew ?_))); (case side2 => exact (Kd.R_reads' HO343.out).2.1); (case side3 => repeat (first | exact (Kd.R_reads' HO347.out).2.2 | (with_reducible refine Kd.C_alloc ?_ _) | (with_reducible refine Kd.C_drewN ?_ _) | (with_reducible refine Kd.C_drew ?_))); (case side4 => exact (Kd.R_reads' HO347.out).2.1); rintro e w' ⟨rfl, ⟨nd, rfl⟩⟩; (try first | exact ⟨rfl, _, World.drewN_drewN _ _ _⟩ | exact ⟨rfl, _, Eq.trans (World.drewN_drewN _ _ _) (congrArg (World.drewN _) (Nat.add_assoc _ _ _))⟩)))
                        repeat (go_quiet (first | (go_at_call 48; (with_reducible refine (laws_gSame.calls kj21 _ _ t340 _ _ t344 true _ ?side1 ?side2 ?side3 ?side4 A158.out).mono ?_); (case side1 => repeat (first | exact (Kd.R_reads' HO343.out).2.2 | (with_reducible refine Kd.C_alloc ?_ _) | (with_reducible refine Kd.C_drewN ?_ _) | (with_reducible refine Kd.C_drew ?_))); (case side2 => exact (Kd.R_reads' HO343.out).2.1); (case side3 => repeat (first | exact (Kd.R_reads' HO347.out).2.2 | (with_reducible refine Kd.C_alloc ?_ _) | (with_reducible refine Kd.C_drewN ?_ _) | (with_reducible refine Kd.C_drew ?_))); (case side4 => exact (Kd.R_reads' HO347.out).2.1); rintro e w' ⟨rfl, ⟨nd, rfl⟩⟩; (try first | exact ⟨rfl, _, World.drewN_drewN _ _ _⟩ | exact ⟨rfl, _, Eq.trans (World.drewN_drewN _ _ _) (congrArg (World.drewN _) (Nat.add_assoc _ _ _))⟩))); try go_wp2_with (first | (go_at_call 48; (with_reducible refine (laws_gSame.calls kj21 _ _ t340 _ _ t344 true _ ?side1 ?side2 ?side3 ?side4 A158.out).mono ?_); (case side1 => repeat (first | exact (Kd.R_reads' HO343.out).2.2 | (with_reducible refine Kd.C_alloc ?_ _) | (with_reducible refine Kd.C_drewN ?_ _) | (with_reducible refine Kd.C_drew ?_))); (case side2 => exact (Kd.R_reads' HO343.out).2.1); (case side3 => repeat (first | exact (Kd.R_reads' HO347.out).2.2 | (with_reducible refine Kd.C_alloc ?_ _) | (with_reducible refine Kd.C_drewN ?_ _) | (with_reducible refine Kd.C_drew ?_))); (case side4 => exact (Kd.R_reads' HO347.out).2.1); rintro e w' ⟨rfl, ⟨nd, rfl⟩⟩; (try first | exact ⟨rfl, _, World.drewN_drewN _ _ _⟩ | exact ⟨rfl, _, Eq.trans (World.drewN_drewN _ _ _) (congrArg (World.drewN _) (Nat.add_assoc _ _ _))⟩))))
                        go_meet
                        case rel => exact ⟨_, (!t334), (by first | rfl | (simp; done) | (simp [*]; done)), H', ⟨by have := HJ9.out; have := HJ21.out; first | omega | exact Nat.le_refl _⟩, ⟨by (with_reducible repeat (first | apply Kd.R_alloc | apply Kd.R_drewN | apply Kd.R_drew)); exact Kd.R_mono HO343.out (fun _ hk => trivial)⟩, kI⟩
                       ·replace c166 := Bool.eq_false_iff.mpr c166
                        subst c166
                        have H1 : (laws_FnTalksKnow.j5 kj21 t323 t324 false t333 t334 t337 t338 t339 t340 t348 t349 false) = some r := by rw [if_neg (show ¬ (false = true) by decide)] at H; exact H
                        clear H
                        have H := H1
                        clear H1
                        have H' := Aside0.mk H
                        clear H
                        obtain ⟨Ao169, co169, eo169⟩ := Kd.R_slice HO343.out
                        subst eo169
                        obtain ⟨Ao170, co170, eo170⟩ := Kd.R_slice HO347.out
                        subst eo170
                        go_wp2_with (first | (go_at_call 48; (with_reducible refine (laws_gSame.calls kj21 _ _ t340 _ _ t344 true _ ?side1 ?side2 ?side3 ?side4 A158.out).mono ?_); (case side1 => repeat (first | exact (Kd.R_reads' HO343.out).2.2 | (with_reducible refine Kd.C_alloc ?_ _) | (with_reducible refine Kd.C_drewN ?_ _) | (with_reducible refine Kd.C_drew ?_))); (case side2 => exact (Kd.R_reads' HO343.out).2.1); (case side3 => repeat (first | exact (Kd.R_reads' HO347.out).2.2 | (with_reducible refine Kd.C_alloc ?_ _) | (with_reducible refine Kd.C_drewN ?_ _) | (with_reducible refine Kd.C_drew ?_))); (case side4 => exact (Kd.R_reads' HO347.out).2.1); rintro e w' ⟨rfl, ⟨nd, rfl⟩⟩; (try first | exact ⟨rfl, _, World.drewN_drewN _ _ _⟩ | exact ⟨rfl, _, Eq.trans (World.drewN_drewN _ _ _) (congrArg (World.drewN _) (Nat.add_assoc _ _ _))⟩)))
                        repeat (go_quiet (first | (go_at_call 48; (with_reducible refine (laws_gSame.calls kj21 _ _ t340 _ _ t344 true _ ?side1 ?side2 ?side3 ?side4 A158.out).mono ?_); (case side1 => repeat (first | exact (Kd.R_reads' HO343.out).2.2 | (with_reducible refine Kd.C_alloc ?_ _) | (with_reducible refine Kd.C_drewN ?_ _) | (with_reducible refine Kd.C_drew ?_))); (case side2 => exact (Kd.R_reads' HO343.out).2.1); (case side3 => repeat (first | exact (Kd.R_reads' HO347.out).2.2 | (with_reducible refine Kd.C_alloc ?_ _) | (with_reducible refine Kd.C_drewN ?_ _) | (with_reducible refine Kd.C_drew ?_))); (case side4 => exact (Kd.R_reads' HO347.out).2.1); rintro e w' ⟨rfl, ⟨nd, rfl⟩⟩; (try first | exact ⟨rfl, _, World.drewN_drewN _ _ _⟩ | exact ⟨rfl, _, Eq.trans (World.drewN_drewN _ _ _) (congrArg (World.drewN _) (Nat.add_assoc _ _ _))⟩))); try go_wp2_with (first | (go_at_call 48; (with_reducible refine (laws_gSame.calls kj21 _ _ t340 _ _ t344 true _ ?side1 ?side2 ?side3 ?side4 A158.out).mono ?_); (case side1 => repeat (first | exact (Kd.R_reads' HO343.out).2.2 | (with_reducible refine Kd.C_alloc ?_ _) | (with_reducible refine Kd.C_drewN ?_ _) | (with_reducible refine Kd.C_drew ?_))); (case side2 => exact (Kd.R_reads' HO343.out).2.1); (case side3 => repeat (first | exact (Kd.R_reads' HO347.out).2.2 | (with_reducible refine Kd.C_alloc ?_ _) | (with_reducible refine Kd.C_drewN ?_ _) | (with_reducible refine Kd.C_drew ?_))); (case side4 => exact (Kd.R_reads' HO347.out).2.1); rintro e w' ⟨rfl, ⟨nd, rfl⟩⟩; (try first | exact ⟨rfl, _, World.drewN_drewN _ _ _⟩ | exact ⟨rfl, _, Eq.trans (World.drewN_drewN _ _ _) (congrArg (World.drewN _) (Nat.add_assoc _ _ _))⟩))))
                        go_meet
                        case rel => exact ⟨_, (false), (by first | rfl | (simp; done) | (simp [*]; done)), H', ⟨by have := HJ9.out; have := HJ21.out; first | omega | exact Nat.le_refl _⟩, ⟨by (with_reducible repeat (first | apply Kd.R_alloc | apply Kd.R_drewN | apply Kd.R_drew)); exact Kd.R_mono HO343.out (fun _ hk => trivial)⟩, kI⟩
                     ·replace c164 := Bool.eq_false_iff.mpr c164
                      subst c164
                      have H1 : (if (t349 != false) = true then (none) else (if t328 = true then (laws_FnTalksKnow.j5 kj21 t323 t324 t328 t333 t334 t337 t338 t339 t340 t348 t349 (!t334)) else (laws_FnTalksKnow.j5 kj21 t323 t324 t328 t333 t334 t337 t338 t339 t340 t348 t349 false))) = some r := by rw [if_neg (show ¬ (false = true) by decide)] at H; exact H
                      clear H
                      have H := H1
                      clear H1
                      by_cases c171 : (t349 != false) = true
                      ·rw [if_pos c171] at H
                       exact absurd H (by simp)
                      ·rw [if_neg c171] at H
                       have c171b0 : (t349 != false) = false := by simpa using c171
                       (try (have c171b1 : decide (t349 = false) = true := by simpa using c171))
                       (try (have c171b2 : (t349 == false) = true := by simpa using c171))
                       clear c171
                       by_cases c172 : t328 = true
                       ·subst c172
                        have H1 : (laws_FnTalksKnow.j5 kj21 t323 t324 true t333 t334 t337 t338 t339 t340 t348 t349 (!t334)) = some r := by rw [if_pos rfl] at H; exact H
                        clear H
                        have H := H1
                        clear H1
                        have H' := Aside0.mk H
                        clear H
                        obtain ⟨Ao173, co173, eo173⟩ := Kd.R_slice HO343.out
                        subst eo173
                        obtain ⟨Ao174, co174, eo174⟩ := Kd.R_slice HO347.out
                        subst eo174
                        go_wp2_with (first | (go_at_call 48; (with_reducible refine (laws_gSame.calls kj21 _ _ t340 _ _ t344 true _ ?side1 ?side2 ?side3 ?side4 A158.out).mono ?_); (case side1 => repeat (first | exact (Kd.R_reads' HO343.out).2.2 | (with_reducible refine Kd.C_alloc ?_ _) | (with_reducible refine Kd.C_drewN ?_ _) | (with_reducible refine Kd.C_drew ?_))); (case side2 => exact (Kd.R_reads' HO343.out).2.1); (case side3 => repeat (first | exact (Kd.R_reads' HO347.out).2.2 | (with_reducible refine Kd.C_alloc ?_ _) | (with_reducible refine Kd.C_drewN ?_ _) | (with_reducible refine Kd.C_drew ?_))); (case side4 => exact (Kd.R_reads' HO347.out).2.1); rintro e w' ⟨rfl, ⟨nd, rfl⟩⟩; (try first | exact ⟨rfl, _, World.drewN_drewN _ _ _⟩ | exact ⟨rfl, _, Eq.trans (World.drewN_drewN _ _ _) (congrArg (World.drewN _) (Nat.add_assoc _ _ _))⟩)))
                        repeat (go_quiet (first | (go_at_call 48; (with_reducible refine (laws_gSame.calls kj21 _ _ t340 _ _ t344 true _ ?side1 ?side2 ?side3 ?side4 A158.out).mono ?_); (case side1 => repeat (first | exact (Kd.R_reads' HO343.out).2.2 | (with_reducible refine Kd.C_alloc ?_ _) | (with_reducible refine Kd.C_drewN ?_ _) | (with_reducible refine Kd.C_drew ?_))); (case side2 => exact (Kd.R_reads' HO343.out).2.1); (case side3 => repeat (first | exact (Kd.R_reads' HO347.out).2.2 | (with_reducible refine Kd.C_alloc ?_ _) | (with_reducible refine Kd.C_drewN ?_ _) | (with_reducible refine Kd.C_drew ?_))); (case side4 => exact (Kd.R_reads' HO347.out).2.1); rintro e w' ⟨rfl, ⟨nd, rfl⟩⟩; (try first | exact ⟨rfl, _, World.drewN_drewN _ _ _⟩ | exact ⟨rfl, _, Eq.trans (World.drewN_drewN _ _ _) (congrArg (World.drewN _) (Nat.add_assoc _ _ _))⟩))); try go_wp2_with (first | (go_at_call 48; (with_reducible refine (laws_gSame.calls kj21 _ _ t340 _ _ t344 true _ ?side1 ?side2 ?side3 ?side4 A158.out).mono ?_); (case side1 => repeat (first | exact (Kd.R_reads' HO343.out).2.2 | (with_reducible refine Kd.C_alloc ?_ _) | (with_reducible refine Kd.C_drewN ?_ _) | (with_reducible refine Kd.C_drew ?_))); (case side2 => exact (Kd.R_reads' HO343.out).2.1); (case side3 => repeat (first | exact (Kd.R_reads' HO347.out).2.2 | (with_reducible refine Kd.C_alloc ?_ _) | (with_reducible refine Kd.C_drewN ?_ _) | (with_reducible refine Kd.C_drew ?_))); (case side4 => exact (Kd.R_reads' HO347.out).2.1); rintro e w' ⟨rfl, ⟨nd, rfl⟩⟩; (try first | exact ⟨rfl, _, World.drewN_drewN _ _ _⟩ | exact ⟨rfl, _, Eq.trans (World.drewN_drewN _ _ _) (congrArg (World.drewN _) (Nat.add_assoc _ _ _))⟩))))
                        go_meet
                        case rel => exact ⟨_, (!t334), (by first | rfl | (simp; done) | (simp [*]; done)), H', ⟨by have := HJ9.out; have := HJ21.out; first | omega | exact Nat.le_refl _⟩, ⟨by (with_reducible repeat (first | apply Kd.R_alloc | apply Kd.R_drewN | apply Kd.R_drew)); exact Kd.R_mono HO343.out (fun _ hk => trivial)⟩, kI⟩
                       ·replace c172 := Bool.eq_false_iff.mpr c172
                        subst c172
                        have H1 : (laws_FnTalksKnow.j5 kj21 t323 t324 false t333 t334 t337 t338 t339 t340 t348 t349 false) = some r := by rw [if_neg (show ¬ (false = true) by decide)] at H; exact H
                        clear H
                        have H := H1
                        clear H1
                        have H' := Aside0.mk H
                        clear H
                        obtain ⟨Ao175, co175, eo175⟩ := Kd.R_slice HO343.out
                        subst eo175
                        obtain ⟨Ao176, co176, eo176⟩ := Kd.R_slice HO347.out
                        subst eo176
                        go_wp2_with (first | (go_at_call 48; (with_reducible refine (laws_gSame.calls kj21 _ _ t340 _ _ t344 true _ ?side1 ?side2 ?side3 ?side4 A158.out).mono ?_); (case side1 => repeat (first | exact (Kd.R_reads' HO343.out).2.2 | (with_reducible refine Kd.C_alloc ?_ _) | (with_reducible refine Kd.C_drewN ?_ _) | (with_reducible refine Kd.C_drew ?_))); (case side2 => exact (Kd.R_reads' HO343.out).2.1); (case side3 => repeat (first | exact (Kd.R_reads' HO347.out).2.2 | (with_reducible refine Kd.C_alloc ?_ _) | (with_reducible refine Kd.C_drewN ?_ _) | (with_reducible refine Kd.C_drew ?_))); (case side4 => exact (Kd.R_reads' HO347.out).2.1); rintro e w' ⟨rfl, ⟨nd, rfl⟩⟩; (try first | exact ⟨rfl, _, World.drewN_drewN _ _ _⟩ | exact ⟨rfl, _, Eq.trans (World.drewN_drewN _ _ _) (congrArg (World.drewN _) (Nat.add_assoc _ _ _))⟩)))
                        repeat (go_quiet (first | (go_at_call 48; (with_reducible refine (laws_gSame.calls kj21 _ _ t340 _ _ t344 true _ ?side1 ?side2 ?side3 ?side4 A158.out).mono ?_); (case side1 => repeat (first | exact (Kd.R_reads' HO343.out).2.2 | (with_reducible refine Kd.C_alloc ?_ _) | (with_reducible refine Kd.C_drewN ?_ _) | (with_reducible refine Kd.C_drew ?_))); (case side2 => exact (Kd.R_reads' HO343.out).2.1); (case side3 => repeat (first | exact (Kd.R_reads' HO347.out).2.2 | (with_reducible refine Kd.C_alloc ?_ _) | (with_reducible refine Kd.C_drewN ?_ _) | (with_reducible refine Kd.C_drew ?_))); (case side4 => exact (Kd.R_reads' HO347.out).2.1); rintro e w' ⟨rfl, ⟨nd, rfl⟩⟩; (try first | exact ⟨rfl, _, World.drewN_drewN _ _ _⟩ | exact ⟨rfl, _, Eq.trans (World.drewN_drewN _ _ _) (congrArg (World.drewN _) (Nat.add_assoc _ _ _))⟩))); try go_wp2_with (first | (go_at_call 48; (with_reducible refine (laws_gSame.calls kj21 _ _ t340 _ _ t344 true _ ?side1 ?side2 ?side3 ?side4 A158.out).mono ?_); (case side1 => repeat (first | exact (Kd.R_reads' HO343.out).2.2 | (with_reducible refine Kd.C_alloc ?_ _) | (with_reducible refine Kd.C_drewN ?_ _) | (with_reducible refine Kd.C_drew ?_))); (case side2 => exact (Kd.R_reads' HO343.out).2.1); (case side3 => repeat (first | exact (Kd.R_reads' HO347.out).2.2 | (with_reducible refine Kd.C_alloc ?_ _) | (with_reducible refine Kd.C_drewN ?_ _) | (with_reducible refine Kd.C_drew ?_))); (case side4 => exact (Kd.R_reads' HO347.out).2.1); rintro e w' ⟨rfl, ⟨nd, rfl⟩⟩; (try first | exact ⟨rfl, _, World.drewN_drewN _ _ _⟩ | exact ⟨rfl, _, Eq.trans (World.drewN_drewN _ _ _) (congrArg (World.drewN _) (Nat.add_assoc _ _ _))⟩))))
                        go_meet
                        case rel => exact ⟨_, (false), (by first | rfl | (simp; done) | (simp [*]; done)), H', ⟨by have := HJ9.out; have := HJ21.out; first | omega | exact Nat.le_refl _⟩, ⟨by (with_reducible repeat (first | apply Kd.R_alloc | apply Kd.R_drewN | apply Kd.R_drew)); exact Kd.R_mono HO343.out (fun _ hk => trivial)⟩, kI⟩
                  ·rw [if_neg c161] at H
                   exact absurd H (by simp)
                ·replace c159 := Bool.eq_false_iff.mpr c159
                 subst c159
                 have H1 : (none) = some r := by rw [if_neg (show ¬ (false = true) by decide)] at H; exact H
                 clear H
                 have H := H1
                 clear H1
                 exact absurd H (by simp)
              ·rw [if_neg c156] at H
               exact absurd H (by simp)
            ·rw [if_neg c154] at H
             exact absurd H (by simp)
           ·rw [if_neg c153] at H
            exact absurd H (by simp)
          ·rw [if_neg c152] at H
           exact absurd H (by simp)
       case rest =>
        clear HC137
        try clear c1
        try clear c4
        try clear c21
        obtain ⟨kq, x474_136, rfl, HA, HJ136, HO_44, HB⟩ := hcut
        cases kq with
        | zero => exact absurd HA.out (by simp [laws_FnTalksKnow.j5])
        | succ kj136 =>
         have H := HA.out
         clear HA
         simp only [laws_FnTalksKnow.j5] at H
         by_cases c177 : x474_136 = true
         ·subst c177
          have H1 : (none) = some r := by rw [if_pos rfl] at H; exact H
          clear H
          have H := H1
          clear H1
          exact absurd H (by simp)
         ·replace c177 := Bool.eq_false_iff.mpr c177
          subst c177
          have H1 : (if t334 = true then (if t333 < 0 then (none) else (if t333 > (wrap64 (Int.tdiv (wrap64 (t323 * (wrap64 (t323 + 1)))) 2)) then (none) else (laws_FnTalksKnow.j6 kj136 t323 t324 t333 t337 t338 t339 t340 t348 t349 (t328 != (decide (t333 < (wrap64 (Int.tdiv (wrap64 (t323 * (wrap64 (t323 + 1)))) 2)))))))) else (laws_FnTalksKnow.j9 kj136 t337 t338 t339 t340 t348 t349)) = some r := by rw [if_neg (show ¬ (false = true) by decide)] at H; exact H
          clear H
          have H := H1
          clear H1
          have HC178 := Aside0.mk H
          clear H
          go_upto_if 475 with (fail)
          repeat (go_quiet (fail); go_upto_if 475 with (fail))
          go_cut [] from 475 to 475 (fun wc => ∃ (kq : Nat), Aside0 (laws_FnTalksKnow.j9 kq t337 t338 t339 t340 t348 t349 = some r) ∧ Aside0 (kq ≤ kj136) ∧ Aside0 (Kd.R (Kd.int .i64) 3 wc w.heap.size (fun _ => True) v342 t340) ∧ Aside0 (Below w.heap.size w wc))
          case first =>
           as_aux_lemma =>
            have H := HC178.out
            clear HC178
            by_cases c179 : t334 = true
            ·subst c179
             have H1 : (if t333 < 0 then (none) else (if t333 > (wrap64 (Int.tdiv (wrap64 (t323 * (wrap64 (t323 + 1)))) 2)) then (none) else (laws_FnTalksKnow.j6 kj136 t323 t324 t333 t337 t338 t339 t340 t348 t349 (t328 != (decide (t333 < (wrap64 (Int.tdiv (wrap64 (t323 * (wrap64 (t323 + 1)))) 2)))))))) = some r := by rw [if_pos rfl] at H; exact H
             clear H
             have H := H1
             clear H1
             have HC180 := Aside0.mk H
             clear H
             go_upto_region 43 with (fail)
             repeat (go_quiet (fail); go_upto_region 43 with (fail))
             go_cut [497] from 1 to 0 (fun v497 wc => ∃ (kq : Nat) (x497_179 : Bool), v497 = .bool x497_179 ∧ Aside0 (laws_FnTalksKnow.j6 kq t323 t324 t333 t337 t338 t339 t340 t348 t349 x497_179 = some r) ∧ Aside0 (kq ≤ kj136) ∧ Aside0 (Kd.R (Kd.int .i64) 3 wc w.heap.size (fun _ => True) v342 t340) ∧ Aside0 (Below w.heap.size w wc))
             case first =>
              as_aux_lemma =>
               have H := HC180.out
               clear HC180
               by_cases c181 : t333 < 0
               ·rw [if_pos c181] at H
                exact absurd H (by simp)
               ·rw [if_neg c181] at H
                have c181b0 : decide (t333 < 0) = false := decide_eq_false c181
                clear c181
                (first | rw [c181b0] | (simp only [i64_w, i32_w]; rw [c181b0]) | skip)
                by_cases c182 : t333 > (wrap64 (Int.tdiv (wrap64 (t323 * (wrap64 (t323 + 1)))) 2))
                ·rw [if_pos c182] at H
                 exact absurd H (by simp)
                ·rw [if_neg c182] at H
                 have c182b0 : decide ((wrap64 (Int.tdiv (wrap64 (t323 * (wrap64 (t323 + 1)))) 2)) < t333) = false := decide_eq_false c182
                 clear c182
                 have H' := Aside0.mk H
                 clear H
                 go_wp2
                 repeat (go_quiet (fail); try go_wp2)
                 go_meet
                 case rel => exact ⟨_, ((t328 != (decide (t333 < (wrap64 (Int.tdiv (wrap64 (t323 * (wrap64 (t323 + 1)))) 2)))))), (by first | rfl | (simp; done) | (simp [*]; done)), H', ⟨by have := HJ9.out; have := HJ21.out; have := HJ136.out; first | omega | exact Nat.le_refl _⟩, ⟨by (with_reducible repeat (first | apply Kd.R_alloc | apply Kd.R_drewN | apply Kd.R_drew)); exact HO_44.out⟩, kI⟩
             case rest =>
              clear HC180
              try clear c1
              try clear c4
              try clear c21
              try clear c177
              try clear c179
              obtain ⟨kq, x497_179, rfl, HA, HJ179, HO_44, HB⟩ := hcut
              cases kq with
              | zero => exact absurd HA.out (by simp [laws_FnTalksKnow.j6])
              | succ kj179 =>
               have H := HA.out
               clear HA
               simp only [laws_FnTalksKnow.j6] at H
               by_cases c183 : x497_179 = true
               ·subst c183
                have H1 : (none) = some r := by rw [if_pos rfl] at H; exact H
                clear H
                have H := H1
                clear H1
                exact absurd H (by simp)
               ·replace c183 := Bool.eq_false_iff.mpr c183
                subst c183
                have H1 : (if t323 ≤ 6 then (laws_FnTalksKnow.l1 kj179 t323 t324 t333 t337 t338 t339 t340 t348 t349 0 1) else (laws_FnTalksKnow.j9 kj179 t337 t338 t339 t340 t348 t349)) = some r := by rw [if_neg (show ¬ (false = true) by decide)] at H; exact H
                clear H
                have H := H1
                clear H1
                by_cases c184 : t323 ≤ 6
                ·rw [if_pos c184] at H
                 have c184b0 : decide (t323 ≤ 6) = true := decide_eq_true c184
                 clear c184
                 have H' := Aside0.mk H
                 clear H
                 go_wp2
                 repeat (go_quiet (fail); try go_wp2)
                 go_loopg [60, 61] kj179 (fun kq v60 v61 w' => ∃ (x60_5 : Int) (x61_5 : Int), v60 = .int .i64 x60_5 ∧ v61 = .int .i64 x61_5 ∧ Aside0 (laws_FnTalksKnow.l1 kq t323 t324 t333 t337 t338 t339 t340 t348 t349 x60_5 x61_5 = some r) ∧ Aside0 (kq ≤ kj179) ∧ Aside0 (Kd.R (Kd.int .i64) 3 w' w.heap.size (fun _ => True) v342 t340) ∧ Aside0 (Below w.heap.size w w'))
                 case atStart => exact ⟨(0), (1), (by first | rfl | (simp; done) | (simp [*]; done)), (by first | rfl | (simp; done) | (simp [*]; done)), H', ⟨Nat.le_refl _⟩, ⟨by (with_reducible repeat (first | apply Kd.R_alloc | apply Kd.R_drewN | apply Kd.R_drew)); exact HO_44.out⟩, kI⟩
                 case round =>
                  clear H'
                  try clear c1
                  try clear c4
                  try clear c21
                  try clear c177
                  try clear c179
                  try clear c183
                  try clear c184
                  try clear c184b0
                  obtain ⟨x60_5, x61_5, rfl, rfl, HA, HK5, HO_44, HB⟩ := hrel
                  cases gk with
                  | zero => exact absurd HA.out (by simp [laws_FnTalksKnow.l1])
                  | succ k5 =>
                   have H := HA.out
                   clear HA
                   simp only [laws_FnTalksKnow.l1] at H
                   by_cases c185 : x61_5 ≤ t323
                   ·rw [if_pos c185] at H
                    have c185b0 : decide (x61_5 ≤ t323) = true := decide_eq_true c185
                    clear c185
                    have H' := Aside0.mk H
                    clear H
                    go_wp2
                    repeat (go_quiet (fail); try go_wp2)
                    go_loopg [60, 62] k5 (fun kq v60 v62 w' => ∃ (x60_6 : Int) (x62_6 : Int), v60 = .int .i64 x60_6 ∧ v62 = .int .i64 x62_6 ∧ Aside0 (laws_FnTalksKnow.l2 kq t323 t324 t333 t337 t338 t339 t340 t348 t349 x60_6 x61_5 x62_6 = some r) ∧ Aside0 (kq ≤ k5) ∧ Aside0 (Kd.R (Kd.int .i64) 3 w' w.heap.size (fun _ => True) v342 t340) ∧ Aside0 (Below w.heap.size w w'))
                    case atStart => exact ⟨(x60_5), (1), (by first | rfl | (simp; done) | (simp [*]; done)), (by first | rfl | (simp; done) | (simp [*]; done)), H', ⟨Nat.le_refl _⟩, ⟨by (with_reducible repeat (first | apply Kd.R_alloc | apply Kd.R_drewN | apply Kd.R_drew)); exact HO_44.out⟩, kI⟩
                    case round =>
                     clear H'
                     try clear c1
                     try clear c4
                     try clear c21
                     try clear c177
                     try clear c179
                     try clear c183
                     try clear c184
                     try clear c184b0
                     try clear c185
                     try clear c185b0
                     obtain ⟨x60_6, x62_6, rfl, rfl, HA, HK6, HO_44, HB⟩ := hrel
                     cases gk with
                     | zero => exact absurd HA.out (by simp [laws_FnTalksKnow.l2])
                     | succ k6 =>
                      have H := HA.out
                      clear HA
                      simp only [laws_FnTalksKnow.l2] at H
                      by_cases c186 : x62_6 ≤ x61_5
                      ·rw [if_pos c186] at H
                       have c186b0 : decide (x62_6 ≤ x61_5) = true := decide_eq_true c186
                       clear c186
                       replace H := Option.bind_eq_some_iff.mp H
                       obtain ⟨⟨t361, t362⟩, A1870, H⟩ := H
                       replace H : (if t362 = true then (laws_FnTalksKnow.l2 k6 t323 t324 t333 t337 t338 t339 t340 t348 t349 x60_6 x61_5 (wrap64 (x62_6 + 1))) else (laws_FnTalksKnow.l2 k6 t323 t324 t333 t337 t338 t339 t340 t348 t349 (wrap64 (x60_6 + 1)) x61_5 (wrap64 (x62_6 + 1)))) = some r := H
                       have A187 := Aside0.mk A1870
                       clear A1870
                       by_cases c188 : t362 = true
                       ·subst c188
                        have H1 : (laws_FnTalksKnow.l2 k6 t323 t324 t333 t337 t338 t339 t340 t348 t349 x60_6 x61_5 (wrap64 (x62_6 + 1))) = some r := by rw [if_pos rfl] at H; exact H
                        clear H
                        have H := H1
                        clear H1
                        have H' := Aside0.mk H
                        clear H
                        go_wp2_with (first | (go_at_call 36; (with_reducible refine (impl_KnownAfter.calls t323 x62_6 x61_5 t324 t361 true _ A187.out).mono ?_); rintro e w189 ⟨rfl, hb⟩; have n0_ := Aside0.mk (Kd.R_below (by (with_reducible repeat (first | apply Kd.R_alloc | apply Kd.R_drewN | apply Kd.R_drew)); exact HO_44.out) hb); have n1_ := kH HB hb; clear HO_44; clear HB; have HO_44 := n0_; have HB := n1_; clear n0_ n1_; (try clear hb)))
                        repeat (go_quiet (first | (go_at_call 36; (with_reducible refine (impl_KnownAfter.calls t323 x62_6 x61_5 t324 t361 true _ A187.out).mono ?_); rintro e w189 ⟨rfl, hb⟩; have n0_ := Aside0.mk (Kd.R_below (by (with_reducible repeat (first | apply Kd.R_alloc | apply Kd.R_drewN | apply Kd.R_drew)); exact HO_44.out) hb); have n1_ := kH HB hb; clear HO_44; clear HB; have HO_44 := n0_; have HB := n1_; clear n0_ n1_; (try clear hb))); try go_wp2_with (first | (go_at_call 36; (with_reducible refine (impl_KnownAfter.calls t323 x62_6 x61_5 t324 t361 true _ A187.out).mono ?_); rintro e w189 ⟨rfl, hb⟩; have n0_ := Aside0.mk (Kd.R_below (by (with_reducible repeat (first | apply Kd.R_alloc | apply Kd.R_drewN | apply Kd.R_drew)); exact HO_44.out) hb); have n1_ := kH HB hb; clear HO_44; clear HB; have HO_44 := n0_; have HB := n1_; clear n0_ n1_; (try clear hb))))
                        go_roundg k6
                        case measure => have := HJ9.out; have := HJ21.out; have := HJ136.out; have := HJ179.out; have := HK5.out; have := HK6.out; omega
                        case rel => exact ⟨(x60_6), (wrap64 (x62_6 + 1)), (by first | rfl | (simp; done) | (simp [*]; done)), (by first | rfl | (simp; done) | (simp [*]; done)), H', ⟨by have := HJ9.out; have := HJ21.out; have := HJ136.out; have := HJ179.out; have := HK5.out; have := HK6.out; omega⟩, ⟨by (with_reducible repeat (first | apply Kd.R_alloc | apply Kd.R_drewN | apply Kd.R_drew)); exact HO_44.out⟩, kI⟩
                       ·replace c188 := Bool.eq_false_iff.mpr c188
                        subst c188
                        have H1 : (laws_FnTalksKnow.l2 k6 t323 t324 t333 t337 t338 t339 t340 t348 t349 (wrap64 (x60_6 + 1)) x61_5 (wrap64 (x62_6 + 1))) = some r := by rw [if_neg (show ¬ (false = true) by decide)] at H; exact H
                        clear H
                        have H := H1
                        clear H1
                        have H' := Aside0.mk H
                        clear H
                        go_wp2_with (first | (go_at_call 36; (with_reducible refine (impl_KnownAfter.calls t323 x62_6 x61_5 t324 t361 false _ A187.out).mono ?_); rintro e w190 ⟨rfl, hb⟩; have n0_ := Aside0.mk (Kd.R_below (by (with_reducible repeat (first | apply Kd.R_alloc | apply Kd.R_drewN | apply Kd.R_drew)); exact HO_44.out) hb); have n1_ := kH HB hb; clear HO_44; clear HB; have HO_44 := n0_; have HB := n1_; clear n0_ n1_; (try clear hb)))
                        repeat (go_quiet (first | (go_at_call 36; (with_reducible refine (impl_KnownAfter.calls t323 x62_6 x61_5 t324 t361 false _ A187.out).mono ?_); rintro e w190 ⟨rfl, hb⟩; have n0_ := Aside0.mk (Kd.R_below (by (with_reducible repeat (first | apply Kd.R_alloc | apply Kd.R_drewN | apply Kd.R_drew)); exact HO_44.out) hb); have n1_ := kH HB hb; clear HO_44; clear HB; have HO_44 := n0_; have HB := n1_; clear n0_ n1_; (try clear hb))); try go_wp2_with (first | (go_at_call 36; (with_reducible refine (impl_KnownAfter.calls t323 x62_6 x61_5 t324 t361 false _ A187.out).mono ?_); rintro e w190 ⟨rfl, hb⟩; have n0_ := Aside0.mk (Kd.R_below (by (with_reducible repeat (first | apply Kd.R_alloc | apply Kd.R_drewN | apply Kd.R_drew)); exact HO_44.out) hb); have n1_ := kH HB hb; clear HO_44; clear HB; have HO_44 := n0_; have HB := n1_; clear n0_ n1_; (try clear hb))))
                        go_roundg k6
                        case measure => have := HJ9.out; have := HJ21.out; have := HJ136.out; have := HJ179.out; have := HK5.out; have := HK6.out; omega
                        case rel => exact ⟨(wrap64 (x60_6 + 1)), (wrap64 (x62_6 + 1)), (by first | rfl | (simp; done) | (simp [*]; done)), (by first | rfl | (simp; done) | (simp [*]; done)), H', ⟨by have := HJ9.out; have := HJ21.out; have := HJ136.out; have := HJ179.out; have := HK5.out; have := HK6.out; omega⟩, ⟨by (with_reducible repeat (first | apply Kd.R_alloc | apply Kd.R_drewN | apply Kd.R_drew)); exact HO_44.out⟩, kI⟩
                      ·rw [if_neg c186] at H
                       have c186b0 : decide (x62_6 ≤ x61_5) = false := decide_eq_false c186
                       clear c186
                       have H' := Aside0.mk H
                       clear H
                       go_wp2
                       repeat (go_quiet (fail); try go_wp2)
                       go_roundg k6
                       case measure => have := HJ9.out; have := HJ21.out; have := HJ136.out; have := HJ179.out; have := HK5.out; have := HK6.out; omega
                       case rel => exact ⟨(x60_6), (wrap64 (x61_5 + 1)), (by first | rfl | (simp; done) | (simp [*]; done)), (by first | rfl | (simp; done) | (simp [*]; done)), H', ⟨by have := HJ9.out; have := HJ21.out; have := HJ136.out; have := HJ179.out; have := HK5.out; have := HK6.out; omega⟩, ⟨by (with_reducible repeat (first | apply Kd.R_alloc | apply Kd.R_drewN | apply Kd.R_drew)); exact HO_44.out⟩, kI⟩
                   ·rw [if_neg c185] at H
                    have c185b0 : decide (x61_5 ≤ t323) = false := decide_eq_false c185
                    clear c185
                    by_cases c191 : x60_5 = t333
                    ·rw [if_pos c191] at H
                     have c191b0 : (x60_5 == t333) = true := beq_iff_eq.mpr c191
                     have c191b1 : (x60_5 != t333) = false := bne_eq_false_iff_eq.mpr c191
                     clear c191
                     have H' := Aside0.mk H
                     clear H
                     go_wp2
                     repeat (go_quiet (fail); try go_wp2)
                     go_meet
                     case rel => exact ⟨_, H', ⟨by have := HJ9.out; have := HJ21.out; have := HJ136.out; have := HJ179.out; have := HK5.out; first | omega | exact Nat.le_refl _⟩, ⟨by (with_reducible repeat (first | apply Kd.R_alloc | apply Kd.R_drewN | apply Kd.R_drew)); exact HO_44.out⟩, kI⟩
                    ·rw [if_neg c191] at H
                     exact absurd H (by simp)
                ·rw [if_neg c184] at H
                 have c184b0 : decide (t323 ≤ 6) = false := decide_eq_false c184
                 clear c184
                 have H' := Aside0.mk H
                 clear H
                 go_wp2
                 repeat (go_quiet (fail); try go_wp2)
                 go_meet
                 case rel => exact ⟨_, H', ⟨by have := HJ9.out; have := HJ21.out; have := HJ136.out; have := HJ179.out; first | omega | exact Nat.le_refl _⟩, ⟨by (with_reducible repeat (first | apply Kd.R_alloc | apply Kd.R_drewN | apply Kd.R_drew)); exact HO_44.out⟩, kI⟩
            ·replace c179 := Bool.eq_false_iff.mpr c179
             subst c179
             have H1 : (laws_FnTalksKnow.j9 kj136 t337 t338 t339 t340 t348 t349) = some r := by rw [if_neg (show ¬ (false = true) by decide)] at H; exact H
             clear H
             have H := H1
             clear H1
             have H' := Aside0.mk H
             clear H
             go_wp2
             repeat (go_quiet (fail); try go_wp2)
             go_meet
             case rel => exact ⟨_, H', ⟨by have := HJ9.out; have := HJ21.out; have := HJ136.out; first | omega | exact Nat.le_refl _⟩, ⟨by (with_reducible repeat (first | apply Kd.R_alloc | apply Kd.R_drewN | apply Kd.R_drew)); exact HO_44.out⟩, kI⟩
          case rest =>
           clear HC178
           try clear c1
           try clear c4
           try clear c21
           try clear c177
           obtain ⟨kq, HA, HJ177, HO_44, HB⟩ := hcut
           cases kq with
           | zero => exact absurd HA.out (by simp [laws_FnTalksKnow.j9])
           | succ kj177 =>
            have H := HA.out
            clear HA
            simp only [laws_FnTalksKnow.j9] at H
            by_cases c192 : t349 = true
            ·subst c192
             have H1 : ((laws_gRises.f kj177 t340).bind fun t363 => (if t363 = true then (if 0 < (t340.length : Int) then (laws_FnTalksKnow.j10 kj177 t337 t338 t339 t340 ((rd t340 0) != t348)) else (none)) else (none))) = some r := by rw [if_pos rfl] at H; exact H
             clear H
             have H := H1
             clear H1
             have HC193 := Aside0.mk H
             clear H
             go_upto_region 59 with (fail)
             repeat (go_quiet (fail); go_upto_region 59 with (fail))
             go_cut [535] from 1 to 0 (fun v535 wc => ∃ (kq : Nat) (x535_192 : Bool), v535 = .bool x535_192 ∧ Aside0 (laws_FnTalksKnow.j10 kq t337 t338 t339 t340 x535_192 = some r) ∧ Aside0 (kq ≤ kj177) ∧ Aside0 (Kd.R (Kd.int .i64) 3 wc w.heap.size (fun _ => True) v342 t340) ∧ Aside0 (Below w.heap.size w wc))
             case first =>
              as_aux_lemma =>
               have H := HC193.out
               clear HC193
               replace H := Option.bind_eq_some_iff.mp H
               obtain ⟨t363, A1940, H⟩ := H
               replace H : (if t363 = true then (if 0 < (t340.length : Int) then (laws_FnTalksKnow.j10 kj177 t337 t338 t339 t340 ((rd t340 0) != t348)) else (none)) else (none)) = some r := H
               have A194 := Aside0.mk A1940
               clear A1940
               by_cases c195 : t363 = true
               ·subst c195
                have H1 : (if 0 < (t340.length : Int) then (laws_FnTalksKnow.j10 kj177 t337 t338 t339 t340 ((rd t340 0) != t348)) else (none)) = some r := by rw [if_pos rfl] at H; exact H
                clear H
                have H := H1
                clear H1
                by_cases c196 : 0 < (t340.length : Int)
                ·rw [if_pos c196] at H
                 have c196b0 : decide (0 < (t340.length : Int)) = true := decide_eq_true c196
                 have c196b1 : decide (0 < t340.length) = true := decide_eq_true (by omega)
                 clear c196
                 (first | rw [c196b0] | (simp only [i64_w, i32_w]; rw [c196b0]) | skip)
                 have H' := Aside0.mk H
                 clear H
                 obtain ⟨Ao197, co197, eo197⟩ := Kd.R_slice HO_44.out
                 subst eo197
                 go_wp2_with (first | (go_at_call 49; (with_reducible refine (laws_gRises.calls kj177 _ _ t340 true _ ?side1 ?side2 A194.out).mono ?_); (case side1 => repeat (first | exact (Kd.R_reads' HO_44.out).2.2 | (with_reducible refine Kd.C_alloc ?_ _) | (with_reducible refine Kd.C_drewN ?_ _) | (with_reducible refine Kd.C_drew ?_))); (case side2 => exact (Kd.R_reads' HO_44.out).2.1); rintro e w' ⟨rfl, ⟨nd, rfl⟩⟩; (try first | exact ⟨rfl, _, World.drewN_drewN _ _ _⟩ | exact ⟨rfl, _, Eq.trans (World.drewN_drewN _ _ _) (congrArg (World.drewN _) (Nat.add_assoc _ _ _))⟩); have p364 : 0 ≤ (0 : Int) := (by omega); have q364 : 0 < (t340.length : Int) := of_decide_eq_true (by first | (with_reducible assumption) | assumption); obtain ⟨ad364, e364, hx364_0⟩ := Kd.at_int (Kd.R_reads' HO_44.out).2.2 0 p364 q364; cases e364; have qi364 : (0 < t340.length) = True := eq_true (by omega); (try rw [show ((0 : Int)).toNat = 0 from rfl] at hx364_0); (try rw [Addr.add_zero'] at hx364_0); replace p364 := eq_true p364; replace q364 := eq_true q364))
                 repeat (go_quiet (first | (go_at_call 49; (with_reducible refine (laws_gRises.calls kj177 _ _ t340 true _ ?side1 ?side2 A194.out).mono ?_); (case side1 => repeat (first | exact (Kd.R_reads' HO_44.out).2.2 | (with_reducible refine Kd.C_alloc ?_ _) | (with_reducible refine Kd.C_drewN ?_ _) | (with_reducible refine Kd.C_drew ?_))); (case side2 => exact (Kd.R_reads' HO_44.out).2.1); rintro e w' ⟨rfl, ⟨nd, rfl⟩⟩; (try first | exact ⟨rfl, _, World.drewN_drewN _ _ _⟩ | exact ⟨rfl, _, Eq.trans (World.drewN_drewN _ _ _) (congrArg (World.drewN _) (Nat.add_assoc _ _ _))⟩); have p364 : 0 ≤ (0 : Int) := (by omega); have q364 : 0 < (t340.length : Int) := of_decide_eq_true (by first | (with_reducible assumption) | assumption); obtain ⟨ad364, e364, hx364_0⟩ := Kd.at_int (Kd.R_reads' HO_44.out).2.2 0 p364 q364; cases e364; have qi364 : (0 < t340.length) = True := eq_true (by omega); (try rw [show ((0 : Int)).toNat = 0 from rfl] at hx364_0); (try rw [Addr.add_zero'] at hx364_0); replace p364 := eq_true p364; replace q364 := eq_true q364)); try go_wp2_with (first | (go_at_call 49; (with_reducible refine (laws_gRises.calls kj177 _ _ t340 true _ ?side1 ?side2 A194.out).mono ?_); (case side1 => repeat (first | exact (Kd.R_reads' HO_44.out).2.2 | (with_reducible refine Kd.C_alloc ?_ _) | (with_reducible refine Kd.C_drewN ?_ _) | (with_reducible refine Kd.C_drew ?_))); (case side2 => exact (Kd.R_reads' HO_44.out).2.1); rintro e w' ⟨rfl, ⟨nd, rfl⟩⟩; (try first | exact ⟨rfl, _, World.drewN_drewN _ _ _⟩ | exact ⟨rfl, _, Eq.trans (World.drewN_drewN _ _ _) (congrArg (World.drewN _) (Nat.add_assoc _ _ _))⟩); have p364 : 0 ≤ (0 : Int) := (by omega); have q364 : 0 < (t340.length : Int) := of_decide_eq_true (by first | (with_reducible assumption) | assumption); obtain ⟨ad364, e364, hx364_0⟩ := Kd.at_int (Kd.R_reads' HO_44.out).2.2 0 p364 q364; cases e364; have qi364 : (0 < t340.length) = True := eq_true (by omega); (try rw [show ((0 : Int)).toNat = 0 from rfl] at hx364_0); (try rw [Addr.add_zero'] at hx364_0); replace p364 := eq_true p364; replace q364 := eq_true q364)))
                 go_meet
                 case rel => exact ⟨_, (((rd t340 0) != t348)), (by first | rfl | (simp; done) | (simp [*]; done)), H', ⟨by have := HJ9.out; have := HJ21.out; have := HJ136.out; have := HJ177.out; first | omega | exact Nat.le_refl _⟩, ⟨by (with_reducible repeat (first | apply Kd.R_alloc | apply Kd.R_drewN | apply Kd.R_drew)); exact HO_44.out⟩, kI⟩
                ·rw [if_neg c196] at H
                 exact absurd H (by simp)
               ·replace c195 := Bool.eq_false_iff.mpr c195
                subst c195
                have H1 : (none) = some r := by rw [if_neg (show ¬ (false = true) by decide)] at H; exact H
                clear H
                have H := H1
                clear H1
                exact absurd H (by simp)
             case rest =>
              clear HC193
              try clear c1
              try clear c4
              try clear c21
              try clear c177
              try clear c192
              obtain ⟨kq, x535_192, rfl, HA, HJ192, HO_44, HB⟩ := hcut
              cases kq with
              | zero => exact absurd HA.out (by simp [laws_FnTalksKnow.j10])
              | succ kj192 =>
               have H := HA.out
               clear HA
               simp only [laws_FnTalksKnow.j10] at H
               by_cases c198 : x535_192 = true
               ·subst c198
                have H1 : (none) = some r := by rw [if_pos rfl] at H; exact H
                clear H
                have H := H1
                clear H1
                exact absurd H (by simp)
               ·replace c198 := Bool.eq_false_iff.mpr c198
                subst c198
                have H1 : (laws_FnTalksKnow.l3 kj192 t337 t338 t339 t340 2) = some r := by rw [if_neg (show ¬ (false = true) by decide)] at H; exact H
                clear H
                have H := H1
                clear H1
                have H' := Aside0.mk H
                clear H
                go_wp2
                repeat (go_quiet (fail); try go_wp2)
                go_loopg [65] kj192 (fun kq v65 w' => ∃ (x65_6 : Int), v65 = .int .i64 x65_6 ∧ Aside0 (laws_FnTalksKnow.l3 kq t337 t338 t339 t340 x65_6 = some r) ∧ Aside0 (kq ≤ kj192) ∧ Aside0 (Kd.R (Kd.int .i64) 3 w' w.heap.size (fun _ => True) v342 t340) ∧ Aside0 (Below w.heap.size w w'))
                case atStart => exact ⟨(2), (by first | rfl | (simp; done) | (simp [*]; done)), H', ⟨Nat.le_refl _⟩, ⟨by (with_reducible repeat (first | apply Kd.R_alloc | apply Kd.R_drewN | apply Kd.R_drew)); exact HO_44.out⟩, kI⟩
                case round =>
                 clear H'
                 try clear c1
                 try clear c4
                 try clear c21
                 try clear c177
                 try clear c192
                 try clear c198
                 obtain ⟨x65_6, rfl, HA, HK6, HO_44, HB⟩ := hrel
                 cases gk with
                 | zero => exact absurd HA.out (by simp [laws_FnTalksKnow.l3])
                 | succ k6 =>
                  have H := HA.out
                  clear HA
                  simp only [laws_FnTalksKnow.l3] at H
                  have HC199 := Aside0.mk H
                  clear H
                  go_upto_region 62 with (fail)
                  repeat (go_quiet (fail); go_upto_region 62 with (fail))
                  go_cut [541] from 1 to 0 (fun v541 wc => ∃ (kq : Nat) (x541_198 : Bool), v541 = .bool x541_198 ∧ Aside0 (laws_FnTalksKnow.j12 kq t337 t338 t339 t340 x65_6 x541_198 = some r) ∧ Aside0 (kq ≤ k6) ∧ Aside0 (Kd.R (Kd.int .i64) 3 wc w.heap.size (fun _ => True) v342 t340) ∧ Aside0 (Below w.heap.size w wc))
                  case first =>
                   as_aux_lemma =>
                    have H := HC199.out
                    clear HC199
                    by_cases c200 : x65_6 ≤ 40
                    ·rw [if_pos c200] at H
                     have c200b0 : decide (x65_6 ≤ 40) = true := decide_eq_true c200
                     clear c200
                     (first | rw [c200b0] | (simp only [i64_w, i32_w]; rw [c200b0]) | skip)
                     have H' := Aside0.mk H
                     clear H
                     go_wp2
                     repeat (go_quiet (fail); try go_wp2)
                     go_meet
                     case rel => exact ⟨_, (decide (x65_6 ≤ 16)), (by first | rfl | (simp; done) | (simp [*]; done)), H', ⟨by have := HJ9.out; have := HJ21.out; have := HJ136.out; have := HJ177.out; have := HJ192.out; have := HK6.out; first | omega | exact Nat.le_refl _⟩, ⟨by (with_reducible repeat (first | apply Kd.R_alloc | apply Kd.R_drewN | apply Kd.R_drew)); exact HO_44.out⟩, kI⟩
                    ·rw [if_neg c200] at H
                     have c200b0 : decide (x65_6 ≤ 40) = false := decide_eq_false c200
                     clear c200
                     (first | rw [c200b0] | (simp only [i64_w, i32_w]; rw [c200b0]) | skip)
                     have H' := Aside0.mk H
                     clear H
                     go_wp2
                     repeat (go_quiet (fail); try go_wp2)
                     go_meet
                     case rel => exact ⟨_, (false), (by first | rfl | (simp; done) | (simp [*]; done)), H', ⟨by have := HJ9.out; have := HJ21.out; have := HJ136.out; have := HJ177.out; have := HJ192.out; have := HK6.out; first | omega | exact Nat.le_refl _⟩, ⟨by (with_reducible repeat (first | apply Kd.R_alloc | apply Kd.R_drewN | apply Kd.R_drew)); exact HO_44.out⟩, kI⟩
                  case rest =>
                   clear HC199
                   try clear c1
                   try clear c4
                   try clear c21
                   try clear c177
                   try clear c192
                   try clear c198
                   obtain ⟨kq, x541_198, rfl, HA, HJ198, HO_44, HB⟩ := hcut
                   cases kq with
                   | zero => exact absurd HA.out (by simp [laws_FnTalksKnow.j12])
                   | succ kj198 =>
                    have H := HA.out
                    clear HA
                    simp only [laws_FnTalksKnow.j12] at H
                    by_cases c201 : x541_198 = true
                    ·subst c201
                     have H1 : (if x65_6 < t338 then ((laws_gHas.f kj198 t340 x65_6).bind fun t365 => (if t365 = true then (none) else (laws_FnTalksKnow.l3 kj198 t337 t338 t339 t340 (wrap64 (x65_6 + 1))))) else ((impl_IsTrueTalk.f x65_6 t337 t338 t339).bind fun bt366 => (if bt366.2 = true then ((laws_gHas.f kj198 t340 x65_6).bind fun t368 => (if (bt366.1 != t368) = true then (none) else (laws_FnTalksKnow.l3 kj198 t337 t338 t339 t340 (wrap64 (x65_6 + 1))))) else (none)))) = some r := by rw [if_pos rfl] at H; exact H
                     clear H
                     have H := H1
                     clear H1
                     by_cases c202 : x65_6 < t338
                     ·rw [if_pos c202] at H
                      have c202b0 : decide (x65_6 < t338) = true := decide_eq_true c202
                      clear c202
                      replace H := Option.bind_eq_some_iff.mp H
                      obtain ⟨t365, A2030, H⟩ := H
                      replace H : (if t365 = true then (none) else (laws_FnTalksKnow.l3 kj198 t337 t338 t339 t340 (wrap64 (x65_6 + 1)))) = some r := H
                      have A203 := Aside0.mk A2030
                      clear A2030
                      by_cases c204 : t365 = true
                      ·subst c204
                       have H1 : (none) = some r := by rw [if_pos rfl] at H; exact H
                       clear H
                       have H := H1
                       clear H1
                       exact absurd H (by simp)
                      ·replace c204 := Bool.eq_false_iff.mpr c204
                       subst c204
                       have H1 : (laws_FnTalksKnow.l3 kj198 t337 t338 t339 t340 (wrap64 (x65_6 + 1))) = some r := by rw [if_neg (show ¬ (false = true) by decide)] at H; exact H
                       clear H
                       have H := H1
                       clear H1
                       have H' := Aside0.mk H
                       clear H
                       obtain ⟨Ao205, co205, eo205⟩ := Kd.R_slice HO_44.out
                       subst eo205
                       go_wp2_with (first | (go_at_call 50; (with_reducible refine (laws_gHas.calls kj198 _ _ t340 x65_6 false _ ?side1 ?side2 A203.out).mono ?_); (case side1 => repeat (first | exact (Kd.R_reads' HO_44.out).2.2 | (with_reducible refine Kd.C_alloc ?_ _) | (with_reducible refine Kd.C_drewN ?_ _) | (with_reducible refine Kd.C_drew ?_))); (case side2 => exact (Kd.R_reads' HO_44.out).2.1); rintro e w' ⟨rfl, ⟨nd, rfl⟩⟩; (try first | exact ⟨rfl, _, World.drewN_drewN _ _ _⟩ | exact ⟨rfl, _, Eq.trans (World.drewN_drewN _ _ _) (congrArg (World.drewN _) (Nat.add_assoc _ _ _))⟩)))
                       repeat (go_quiet (first | (go_at_call 50; (with_reducible refine (laws_gHas.calls kj198 _ _ t340 x65_6 false _ ?side1 ?side2 A203.out).mono ?_); (case side1 => repeat (first | exact (Kd.R_reads' HO_44.out).2.2 | (with_reducible refine Kd.C_alloc ?_ _) | (with_reducible refine Kd.C_drewN ?_ _) | (with_reducible refine Kd.C_drew ?_))); (case side2 => exact (Kd.R_reads' HO_44.out).2.1); rintro e w' ⟨rfl, ⟨nd, rfl⟩⟩; (try first | exact ⟨rfl, _, World.drewN_drewN _ _ _⟩ | exact ⟨rfl, _, Eq.trans (World.drewN_drewN _ _ _) (congrArg (World.drewN _) (Nat.add_assoc _ _ _))⟩))); try go_wp2_with (first | (go_at_call 50; (with_reducible refine (laws_gHas.calls kj198 _ _ t340 x65_6 false _ ?side1 ?side2 A203.out).mono ?_); (case side1 => repeat (first | exact (Kd.R_reads' HO_44.out).2.2 | (with_reducible refine Kd.C_alloc ?_ _) | (with_reducible refine Kd.C_drewN ?_ _) | (with_reducible refine Kd.C_drew ?_))); (case side2 => exact (Kd.R_reads' HO_44.out).2.1); rintro e w' ⟨rfl, ⟨nd, rfl⟩⟩; (try first | exact ⟨rfl, _, World.drewN_drewN _ _ _⟩ | exact ⟨rfl, _, Eq.trans (World.drewN_drewN _ _ _) (congrArg (World.drewN _) (Nat.add_assoc _ _ _))⟩))))
                       go_roundg kj198
                       case measure => have := HJ9.out; have := HJ21.out; have := HJ136.out; have := HJ177.out; have := HJ192.out; have := HK6.out; have := HJ198.out; omega
                       case rel => exact ⟨(wrap64 (x65_6 + 1)), (by first | rfl | (simp; done) | (simp [*]; done)), H', ⟨by have := HJ9.out; have := HJ21.out; have := HJ136.out; have := HJ177.out; have := HJ192.out; have := HK6.out; have := HJ198.out; omega⟩, ⟨by (with_reducible repeat (first | apply Kd.R_alloc | apply Kd.R_drewN | apply Kd.R_drew)); exact HO_44.out⟩, kI⟩
                     ·rw [if_neg c202] at H
                      have c202b0 : decide (x65_6 < t338) = false := decide_eq_false c202
                      clear c202
                      replace H := Option.bind_eq_some_iff.mp H
                      obtain ⟨⟨t366, t367⟩, A2060, H⟩ := H
                      replace H : (if t367 = true then ((laws_gHas.f kj198 t340 x65_6).bind fun t368 => (if (t366 != t368) = true then (none) else (laws_FnTalksKnow.l3 kj198 t337 t338 t339 t340 (wrap64 (x65_6 + 1))))) else (none)) = some r := H
                      have A206 := Aside0.mk A2060
                      clear A2060
                      by_cases c207 : t367 = true
                      ·subst c207
                       have H1 : ((laws_gHas.f kj198 t340 x65_6).bind fun t368 => (if (t366 != t368) = true then (none) else (laws_FnTalksKnow.l3 kj198 t337 t338 t339 t340 (wrap64 (x65_6 + 1))))) = some r := by rw [if_pos rfl] at H; exact H
                       clear H
                       have H := H1
                       clear H1
                       replace H := Option.bind_eq_some_iff.mp H
                       obtain ⟨t368, A2080, H⟩ := H
                       replace H : (if (t366 != t368) = true then (none) else (laws_FnTalksKnow.l3 kj198 t337 t338 t339 t340 (wrap64 (x65_6 + 1)))) = some r := H
                       have A208 := Aside0.mk A2080
                       clear A2080
                       by_cases c209 : (t366 != t368) = true
                       ·rw [if_pos c209] at H
                        exact absurd H (by simp)
                       ·rw [if_neg c209] at H
                        have c209b0 : (t366 != t368) = false := by simpa using c209
                        (try (have c209b1 : decide (t366 = t368) = true := by simpa using c209))
                        (try (have c209b2 : (t366 == t368) = true := by simpa using c209))
                        clear c209
                        have H' := Aside0.mk H
                        clear H
                        go_wp2_with (first | (go_at_call 38; (with_reducible refine (impl_IsTrueTalk.calls x65_6 t337 t338 t339 t366 true _ A206.out).mono ?_); rintro e w210 ⟨rfl, hb⟩; have n0_ := Aside0.mk (Kd.R_below (by (with_reducible repeat (first | apply Kd.R_alloc | apply Kd.R_drewN | apply Kd.R_drew)); exact HO_44.out) hb); have n1_ := kH HB hb; clear HO_44; clear HB; have HO_44 := n0_; have HB := n1_; clear n0_ n1_; (try clear hb); obtain ⟨Ao211, co211, eo211⟩ := Kd.R_slice HO_44.out; subst eo211) | (go_at_call 50; (with_reducible refine (laws_gHas.calls kj198 _ _ t340 x65_6 t368 _ ?side1 ?side2 A208.out).mono ?_); (case side1 => repeat (first | exact (Kd.R_reads' HO_44.out).2.2 | (with_reducible refine Kd.C_alloc ?_ _) | (with_reducible refine Kd.C_drewN ?_ _) | (with_reducible refine Kd.C_drew ?_))); (case side2 => exact (Kd.R_reads' HO_44.out).2.1); rintro e w' ⟨rfl, ⟨nd, rfl⟩⟩; (try first | exact ⟨rfl, _, World.drewN_drewN _ _ _⟩ | exact ⟨rfl, _, Eq.trans (World.drewN_drewN _ _ _) (congrArg (World.drewN _) (Nat.add_assoc _ _ _))⟩)))
                        repeat (go_quiet (first | (go_at_call 38; (with_reducible refine (impl_IsTrueTalk.calls x65_6 t337 t338 t339 t366 true _ A206.out).mono ?_); rintro e w210 ⟨rfl, hb⟩; have n0_ := Aside0.mk (Kd.R_below (by (with_reducible repeat (first | apply Kd.R_alloc | apply Kd.R_drewN | apply Kd.R_drew)); exact HO_44.out) hb); have n1_ := kH HB hb; clear HO_44; clear HB; have HO_44 := n0_; have HB := n1_; clear n0_ n1_; (try clear hb); obtain ⟨Ao211, co211, eo211⟩ := Kd.R_slice HO_44.out; subst eo211) | (go_at_call 50; (with_reducible refine (laws_gHas.calls kj198 _ _ t340 x65_6 t368 _ ?side1 ?side2 A208.out).mono ?_); (case side1 => repeat (first | exact (Kd.R_reads' HO_44.out).2.2 | (with_reducible refine Kd.C_alloc ?_ _) | (with_reducible refine Kd.C_drewN ?_ _) | (with_reducible refine Kd.C_drew ?_))); (case side2 => exact (Kd.R_reads' HO_44.out).2.1); rintro e w' ⟨rfl, ⟨nd, rfl⟩⟩; (try first | exact ⟨rfl, _, World.drewN_drewN _ _ _⟩ | exact ⟨rfl, _, Eq.trans (World.drewN_drewN _ _ _) (congrArg (World.drewN _) (Nat.add_assoc _ _ _))⟩))); try go_wp2_with (first | (go_at_call 38; (with_reducible refine (impl_IsTrueTalk.calls x65_6 t337 t338 t339 t366 true _ A206.out).mono ?_); rintro e w210 ⟨rfl, hb⟩; have n0_ := Aside0.mk (Kd.R_below (by (with_reducible repeat (first | apply Kd.R_alloc | apply Kd.R_drewN | apply Kd.R_drew)); exact HO_44.out) hb); have n1_ := kH HB hb; clear HO_44; clear HB; have HO_44 := n0_; have HB := n1_; clear n0_ n1_; (try clear hb); obtain ⟨Ao211, co211, eo211⟩ := Kd.R_slice HO_44.out; subst eo211) | (go_at_call 50; (with_reducible refine (laws_gHas.calls kj198 _ _ t340 x65_6 t368 _ ?side1 ?side2 A208.out).mono ?_); (case side1 => repeat (first | exact (Kd.R_reads' HO_44.out).2.2 | (with_reducible refine Kd.C_alloc ?_ _) | (with_reducible refine Kd.C_drewN ?_ _) | (with_reducible refine Kd.C_drew ?_))); (case side2 => exact (Kd.R_reads' HO_44.out).2.1); rintro e w' ⟨rfl, ⟨nd, rfl⟩⟩; (try first | exact ⟨rfl, _, World.drewN_drewN _ _ _⟩ | exact ⟨rfl, _, Eq.trans (World.drewN_drewN _ _ _) (congrArg (World.drewN _) (Nat.add_assoc _ _ _))⟩))))
                        go_roundg kj198
                        case measure => have := HJ9.out; have := HJ21.out; have := HJ136.out; have := HJ177.out; have := HJ192.out; have := HK6.out; have := HJ198.out; omega
                        case rel => exact ⟨(wrap64 (x65_6 + 1)), (by first | rfl | (simp; done) | (simp [*]; done)), H', ⟨by have := HJ9.out; have := HJ21.out; have := HJ136.out; have := HJ177.out; have := HJ192.out; have := HK6.out; have := HJ198.out; omega⟩, ⟨by (with_reducible repeat (first | apply Kd.R_alloc | apply Kd.R_drewN | apply Kd.R_drew)); exact HO_44.out⟩, kI⟩
                      ·replace c207 := Bool.eq_false_iff.mpr c207
                       subst c207
                       have H1 : (none) = some r := by rw [if_neg (show ¬ (false = true) by decide)] at H; exact H
                       clear H
                       have H := H1
                       clear H1
                       exact absurd H (by simp)
                    ·replace c201 := Bool.eq_false_iff.mpr c201
                     subst c201
                     have H1 : (some true) = some r := by rw [if_neg (show ¬ (false = true) by decide)] at H; exact H
                     clear H
                     have H := H1
                     clear H1
                     obtain rfl := Option.some.inj H
                     go_wp2
                     repeat (go_quiet (fail); try go_wp2)
                     go_ret
                     exact ⟨by first | rfl | (simp [errW_none, errW_some] <;> rfl) | (simp [*, errW_none, errW_some] <;> rfl), kO⟩
            ·replace c192 := Bool.eq_false_iff.mpr c192
             subst c192
             have H1 : (some true) = some r := by rw [if_neg (show ¬ (false = true) by decide)] at H; exact H
             clear H
             have H := H1
             clear H1
             obtain rfl := Option.some.inj H
             go_wp2
             repeat (go_quiet (fail); try go_wp2)
             go_ret
             exact ⟨by first | rfl | (simp [errW_none, errW_some] <;> rfl) | (simp [*, errW_none, errW_some] <;> rfl), kO⟩

/-- THE ONE PURE STATEMENT of laws_FnTalksKnow: yours. -/
def laws_FnTalksKnow.Pure : Prop := ∀ (l0 : List Int) (l1 : List Int), l0.length ≤ maxLen → l0.length * 1 ≤ 140737488351232 → (∀ x ∈ l0, (Lit.int .u8 x).wf = true) → l1.length ≤ maxLen → l1.length * 1 ≤ 140737488351232 → (∀ x ∈ l1, (Lit.int .u8 x).wf = true) → ∃ k, laws_FnTalksKnow.f k l0 l1 = some true
theorem laws_FnTalksKnow.walk (P : laws_FnTalksKnow.Pure) (a0 : Option Addr) (len0 cap0 : Nat) (z0 : List Int) (a1 : Option Addr) (len1 cap1 : Nat) (z1 : List Int) (w : World) (w0 : (a0 = none ∧ len0 = 0 ∧ cap0 = 0 ∧ z0 = []) ∨ ∃ x, a0 = some x ∧ len0 ≤ cap0 ∧ cap0 ≤ maxLen ∧ z0.length = cap0 ∧ (∀ i, i < z0.length → w.cell? (x.add i) = some (.int .u8 (z0.getD i 0))) ∧ ∀ n ∈ z0, (Lit.int .u8 n).wf = true) (y0 : len0 * 1 ≤ 140737488351232) (w1 : (a1 = none ∧ len1 = 0 ∧ cap1 = 0 ∧ z1 = []) ∨ ∃ x, a1 = some x ∧ len1 ≤ cap1 ∧ cap1 ≤ maxLen ∧ z1.length = cap1 ∧ (∀ i, i < z1.length → w.cell? (x.add i) = some (.int .u8 (z1.getD i 0))) ∧ ∀ n ∈ z1, (Lit.int .u8 n).wf = true) (y1 : len1 * 1 ≤ 140737488351232) :
  Calls Try.prog 9 #[.slice a0 len0 cap0, .slice a1 len1 cap1] w fun e w' => e = .returned (.bool true) ∧ Below w.heap.size w w' := by
 obtain ⟨l0, rfl, hr0, hm0, hw0, hc0⟩ := ReadsInt.ofRowC w0
 obtain ⟨l1, rfl, hr1, hm1, hw1, hc1⟩ := ReadsInt.ofRowC w1
 obtain ⟨k, h⟩ := P l0 l1 hm0 y0 hw0 hm1 y1 hw1
 refine (laws_FnTalksKnow.calls k _ _ l0 _ _ l1 true w (Kd.C_of_reads (d := (0 : Int)) (h1 := fun _ => rfl) hr0) hc0 (Kd.C_of_reads (d := (0 : Int)) (h1 := fun _ => rfl) hr1) hc1 h).mono ?_
 rintro e w' ⟨rfl, hd⟩
 exact ⟨rfl, hd⟩

end Go.Proofs.Ytlkbphhmahipdaa.P
