/- The program's YearsUntilRatio returns what the reference's returns, for all arguments. No condition. -/
import Derived.Test.YtkjmiamldajcbaaPx12
import Derived.Test.YtkjmiamldajcbaaPrC
namespace Go.Proofs.Ytkjmiamldajcbaa.Pure
open Go.RowKit Go.Proofs.Ytkjmiamldajcbaa.P Go.Proofs.Ytkjmiamldajcbaa.Pr Go.Proofs.YtkjmiamldajcbaaW.PrintWords Go.Proofs.Ytkjmiamldajcbaa.E Go.Proofs.Ytkjmiamldajcbaa.Mth
namespace YearsUntilRatio
def val (a b p q : Int) : Int × Int × Bool := if (0 ≤ a ∧ a ≤ 120) ∧ (0 ≤ b ∧ b ≤ 120) ∧ good p q = true ∧ p ≠ q ∧ 0 < min a b * lowD (q * a - p * b) (p - q) + lowN (q * a - p * b) (p - q) then (lowN (q * a - p * b) (p - q), lowD (q * a - p * b) (p - q), true) else (0, 0, false)
theorem spec_j (a b p q : Int) (x : Bool) (ha : 0 ≤ a ∧ a ≤ 120) (hb : 0 ≤ b ∧ b ≤ 120) (hg : good p q = true) (hx : x = (p == q)) : Ev (fun k => spec_YearsUntilRatio.j0 k a b x p q) (val a b p q) := by
  unfold val
  have hp := (good_iff p q).1 hg
  refine Ev.step (f := fun k => _) (fun k => by rw [spec_YearsUntilRatio.j0]) ?_
  subst hx
  by_cases h : p = q
  · refine ifp (by simp [h]) ?_
    rw [if_neg (by intro h2; exact h2.2.2.2.1 h)]; exact now
  · have m1 := mulb q a 100 120 (by omega) (by omega)
    have m2 := mulb p b 100 120 (by omega) (by omega)
    have hd : p - q ≠ 0 := by omega
    have a1 := lowN_abs (q * a - p * b) (p - q) hd
    have a2 := lowD_bd (q * a - p * b) (p - q) hd (by omega)
    have m3 := mulb (min a b) (lowD (q * a - p * b) (p - q)) 120 10000 (by omega) (by omega)
    refine ifn (by simp [h]) ?_
    rw [w64 (q * a) (by omega), w64 (p * b) (by omega), w64 (q * a - p * b) (by omega), w64 (p - q) (by omega)]
    refine Ev.bind (raLow _ _ (by omega) (by omega) hd) (call (least a b) ?_)
    dsimp only
    rw [w64 (min a b * _) (by omega), w64 _ (by omega)]
    by_cases h4 : min a b * lowD (q * a - p * b) (p - q) + lowN (q * a - p * b) (p - q) ≤ 0
    · refine ifp h4 ?_
      rw [if_neg (by intro h2; have := h2.2.2.2.2; omega)]; exact now
    · refine ifn h4 ?_
      rw [if_pos ⟨ha, hb, hg, h, by omega⟩]; exact now
theorem spec_no (a b p q : Int) : Ev (fun k => spec_YearsUntilRatio.j0 k a b true p q) (0, 0, false) :=
  Ev.step (f := fun k => _) (fun k => by rw [spec_YearsUntilRatio.j0]) (ifp rfl now)
theorem spec_ (a b p q : Int) : Ev (fun k => spec_YearsUntilRatio.f k a b p q) (val a b p q) := by
  unfold spec_YearsUntilRatio.f
  refine call (raAge a) ?_
  by_cases h1 : 0 ≤ a ∧ a ≤ 120
  · refine ifp (by simpa using h1) (call (raAge b) ?_)
    by_cases h2 : 0 ≤ b ∧ b ≤ 120
    · refine ifp (by simpa using h2) (call (raGood p q) ?_)
      by_cases h3 : good p q = true
      · exact ifp h3 (spec_j a b p q _ h1 h2 h3 rfl)
      · refine ifn h3 (evEq (spec_no a b p q) ?_)
        unfold val; rw [if_neg (by intro h; exact h3 h.2.2.1)]
    · refine ifn (by simpa using h2) (evEq (spec_no a b p q) ?_)
      unfold val; rw [if_neg (by intro h; exact h2 h.2.1)]
  · refine ifn (by simpa using h1) (evEq (spec_no a b p q) ?_)
    unfold val; rw [if_neg (by intro h; exact h1 h.1)]
theorem both (n d a b : Int) (hd : 1 ≤ d) : allLater n d [a, b] = decide (0 < min a b * d + n) := by
  unfold allLater
  simp only [List.all_cons, List.all_nil, Bool.and_true]
  rcases Int.le_total a b with h | h
  · rw [show min a b = a by omega]
    have := Int.mul_le_mul_of_nonneg_right h (show 0 ≤ d by omega)
    by_cases h1 : 0 < a * d + n
    · simp [h1, show 0 < b * d + n by omega]
    · simp [h1]
  · rw [show min a b = b by omega]
    have := Int.mul_le_mul_of_nonneg_right h (show 0 ≤ d by omega)
    by_cases h1 : 0 < b * d + n
    · simp [h1, show 0 < a * d + n by omega]
    · simp [h1]
theorem impl_ (a b p q : Int) : Ev (fun k => impl_YearsUntilRatio.f k a b p q) (val a b p q) := by
  unfold impl_YearsUntilRatio.f
  refine call (isAge a) ?_
  by_cases h1 : 0 ≤ a ∧ a ≤ 120
  · refine ifp (by simpa using h1) (call (isAge b) ?_)
    by_cases h2 : 0 ≤ b ∧ b ≤ 120
    · refine ifp (by simpa using h2) (call (isRatio p q) ?_)
      by_cases h3 : good p q = true
      · refine ifp h3 ?_
        have hp := (good_iff p q).1 h3
        have m1 := mulb q a 100 120 (by omega) (by omega)
        have m2 := mulb p b 100 120 (by omega) (by omega)
        rw [w64 (q * a) (by omega), w64 (p * b) (by omega), w64 (p * b - q * a) (by omega), w64 (q - p) (by omega)]
        refine Ev.bind (yearsOf (p * b - q * a) (q - p) [a, b] (by intro x hx; simp at hx; omega) (by omega) (by omega) (by simp)) (evEq now ?_)
        unfold val
        by_cases h : p = q
        · rw [if_neg (by simp [h]), if_neg (by intro h2; exact h2.2.2.2.1 h)]
        · have hd : p - q ≠ 0 := by omega
          have e1 := lowN_neg (q * a - p * b) (p - q) hd
          have e2 := lowD_neg (q * a - p * b) (p - q) hd
          rw [Int.neg_sub, Int.neg_sub] at e1 e2
          rw [e1, e2, both _ _ _ _ (lowD_pos _ _ hd)]
          by_cases h4 : 0 < min a b * lowD (q * a - p * b) (p - q) + lowN (q * a - p * b) (p - q)
          · rw [if_pos ⟨by omega, by simpa using h4⟩, if_pos ⟨h1, h2, h3, h, h4⟩]
          · rw [if_neg (by intro h5; exact h4 (by simpa using h5.2)), if_neg (by intro h5; exact h4 h5.2.2.2.2)]
      · refine ifn h3 (evEq now ?_)
        unfold val; rw [if_neg (by intro h; exact h3 h.2.2.1)]
    · refine ifn (by simpa using h2) (evEq now ?_)
      unfold val; rw [if_neg (by intro h; exact h2 h.2.1)]
  · refine ifn (by simpa using h1) (evEq now ?_)
    unfold val; rw [if_neg (by intro h; exact h1 h.1)]
end YearsUntilRatio
theorem FnExactYearsUntilRatio : laws_FnExactYearsUntilRatio.Pure := by
  intro a b p q _ _ _ _
  refine Ev.rounds ?_
  unfold laws_FnExactYearsUntilRatio.f
  refine call (toRatio p q) (Ev.bind (YearsUntilRatio.spec_ a b p q) (call (toRatio p q) (Ev.bind (YearsUntilRatio.impl_ a b p q) ?_)))
  exact ifp rfl (ifp rfl (ifn (by simp) now))
end Go.Proofs.Ytkjmiamldajcbaa.Pure
