/- The program's SameRatioYear returns what the reference's returns, for all arguments. No condition. -/
import Derived.Test.YtkjmiamldajcbaaPx13
import Derived.Test.YtkjmiamldajcbaaPrC
namespace Go.Proofs.Ytkjmiamldajcbaa.Pure
open Go.RowKit Go.Proofs.Ytkjmiamldajcbaa.P Go.Proofs.Ytkjmiamldajcbaa.Pr Go.Proofs.YtkjmiamldajcbaaW.PrintWords Go.Proofs.Ytkjmiamldajcbaa.E Go.Proofs.Ytkjmiamldajcbaa.Mth
namespace SameRatioYear
def ok (a b c d : Int) : Prop := (0 ≤ a ∧ a ≤ 120) ∧ (0 ≤ b ∧ b ≤ 120) ∧ (0 ≤ c ∧ c ≤ 120) ∧ 0 ≤ d ∧ d ≤ 120
instance (a b c d : Int) : Decidable (ok a b c d) := by unfold ok; exact inferInstance
def val (a b c d : Int) : Int × Int × Bool := if ok a b c d ∧ a + d - b - c ≠ 0 ∧ 0 < min (min a b) (min c d) * lowD (b * c - a * d) (a + d - b - c) + lowN (b * c - a * d) (a + d - b - c) then (lowN (b * c - a * d) (a + d - b - c), lowD (b * c - a * d) (a + d - b - c), true) else (0, 0, false)
theorem spec_no (a b c d : Int) : Ev (fun k => spec_SameRatioYear.j0 k a b c d true) (0, 0, false) :=
  Ev.step (f := fun k => _) (fun k => by rw [spec_SameRatioYear.j0]) (ifp rfl now)
theorem spec_j (a b c d : Int) (h : ok a b c d) : Ev (fun k => spec_SameRatioYear.j0 k a b c d false) (val a b c d) := by
  have h' := h
  obtain ⟨ha, hb, hc, hd⟩ := h'
  have m1 := mulb b c 120 120 (by omega) (by omega)
  have m2 := mulb a d 120 120 (by omega) (by omega)
  unfold val
  refine Ev.step (f := fun k => _) (fun k => by rw [spec_SameRatioYear.j0]) (ifn (by simp) ?_)
  rw [w64 (b * c) (by omega), w64 (a * d) (by omega), w64 (b * c - a * d) (by omega), w64 (a + d) (by omega), w64 (a + d - b) (by omega), w64 (a + d - b - c) (by omega)]
  by_cases h0 : a + d - b - c = 0
  · refine ifp h0 ?_
    rw [if_neg (by intro h2; exact h2.2.1 h0)]; exact now
  · have a1 := lowN_abs (b * c - a * d) (a + d - b - c) h0
    have a2 := lowD_bd (b * c - a * d) (a + d - b - c) h0 (by omega)
    have m3 := mulb (min (min a b) (min c d)) (lowD (b * c - a * d) (a + d - b - c)) 120 10000 (by omega) (by omega)
    refine ifn h0 (Ev.bind (raLow _ _ (by omega) (by omega) h0) (call (least a b) (call (least c d) (call (least _ _) ?_))))
    dsimp only
    rw [w64 (min (min a b) (min c d) * _) (by omega), w64 _ (by omega)]
    by_cases h4 : min (min a b) (min c d) * lowD (b * c - a * d) (a + d - b - c) + lowN (b * c - a * d) (a + d - b - c) ≤ 0
    · refine ifp h4 ?_
      rw [if_neg (by intro h2; have := h2.2.2; omega)]; exact now
    · refine ifn h4 ?_
      rw [if_pos ⟨h, h0, by omega⟩]; exact now
theorem spec_ (a b c d : Int) : Ev (fun k => spec_SameRatioYear.f k a b c d) (val a b c d) := by
  unfold spec_SameRatioYear.f
  have no : ¬ ok a b c d → Ev (fun k => spec_SameRatioYear.j0 k a b c d true) (val a b c d) := fun h => evEq (spec_no a b c d) (by unfold val; rw [if_neg (fun h2 => h h2.1)])
  refine call (raAge a) ?_
  by_cases h1 : 0 ≤ a ∧ a ≤ 120
  · refine ifp (by simpa using h1) (call (raAge b) ?_)
    by_cases h2 : 0 ≤ b ∧ b ≤ 120
    · refine ifp (by simpa using h2) (call (raAge c) ?_)
      by_cases h3 : 0 ≤ c ∧ c ≤ 120
      · refine ifp (by simpa using h3) (call (raAge d) ?_)
        by_cases h4 : 0 ≤ d ∧ d ≤ 120
        · rw [decide_eq_true h4]; exact spec_j a b c d ⟨h1, h2, h3, h4⟩
        · rw [decide_eq_false h4]; exact no fun h => h4 h.2.2.2
      · exact ifn (by simpa using h3) (no fun h => h3 h.2.2.1)
    · exact ifn (by simpa using h2) (no fun h => h2 h.2.1)
  · exact ifn (by simpa using h1) (no fun h => h1 h.1)
theorem four (n e a b c d : Int) (he : 1 ≤ e) : allLater n e [a, b, c, d] = decide (0 < min (min a b) (min c d) * e + n) := by
  have key : ∀ x y : Int, decide (0 < min x y * e + n) = (decide (0 < x * e + n) && decide (0 < y * e + n)) := by
    intro x y
    rcases Int.le_total x y with h | h
    · rw [show min x y = x by omega]
      have := Int.mul_le_mul_of_nonneg_right h (show 0 ≤ e by omega)
      by_cases h1 : 0 < x * e + n
      · simp [h1, show 0 < y * e + n by omega]
      · simp [h1]
    · rw [show min x y = y by omega]
      have := Int.mul_le_mul_of_nonneg_right h (show 0 ≤ e by omega)
      by_cases h1 : 0 < y * e + n
      · simp [h1, show 0 < x * e + n by omega]
      · simp [h1]
  unfold allLater
  simp only [List.all_cons, List.all_nil, Bool.and_true, key, Bool.and_assoc]
theorem impl_ (a b c d : Int) : Ev (fun k => impl_SameRatioYear.f k a b c d) (val a b c d) := by
  unfold impl_SameRatioYear.f
  refine call (show impl_areBetween.f [a, b, c, d] 0 120 = some _ from rfl) ?_
  have e : ([a, b, c, d].all fun n => decide (0 ≤ n) && decide (n ≤ 120)) = decide (ok a b c d) := by
    rw [Bool.eq_iff_iff, decide_eq_true_iff]
    unfold ok
    simp only [List.all_cons, List.all_nil, Bool.and_true, Bool.and_eq_true, decide_eq_true_eq]
  rw [e]
  by_cases h : ok a b c d
  · have h' := h
    obtain ⟨ha, hb, hc, hd⟩ := h'
    have m1 := mulb b c 120 120 (by omega) (by omega)
    have m2 := mulb a d 120 120 (by omega) (by omega)
    refine ifp (by simpa using h) ?_
    rw [w64 (b * c) (by omega), w64 (a * d) (by omega), w64 (b * c - a * d) (by omega), w64 (a + d) (by omega), w64 (a + d - b) (by omega), w64 (a + d - b - c) (by omega)]
    refine Ev.bind (yearsOf (b * c - a * d) (a + d - b - c) [a, b, c, d] (by intro x hx; simp at hx; omega) (by omega) (by omega) (by simp)) (evEq now ?_)
    unfold val
    by_cases h0 : a + d - b - c = 0
    · rw [if_neg (by simp [h0]), if_neg (by intro h2; exact h2.2.1 h0)]
    · rw [four _ _ _ _ _ _ (lowD_pos _ _ h0)]
      by_cases h4 : 0 < min (min a b) (min c d) * lowD (b * c - a * d) (a + d - b - c) + lowN (b * c - a * d) (a + d - b - c)
      · rw [if_pos ⟨h0, by simpa using h4⟩, if_pos ⟨h, h0, h4⟩]
      · rw [if_neg (by intro h5; exact h4 (by simpa using h5.2)), if_neg (by intro h5; exact h4 h5.2.2)]
  · refine ifn (by simpa using h) (evEq now ?_)
    unfold val; rw [if_neg (fun h2 => h h2.1)]
end SameRatioYear
theorem FnExactSameRatioYear : laws_FnExactSameRatioYear.Pure := by
  intro a b c d _ _ _ _
  refine Ev.rounds ?_
  unfold laws_FnExactSameRatioYear.f
  refine Ev.bind (SameRatioYear.spec_ a b c d) (Ev.bind (SameRatioYear.impl_ a b c d) ?_)
  exact ifp rfl (ifp rfl (ifn (by simp) now))
end Go.Proofs.Ytkjmiamldajcbaa.Pure
