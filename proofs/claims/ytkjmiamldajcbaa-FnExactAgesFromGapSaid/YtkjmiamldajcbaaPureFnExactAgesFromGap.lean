/- The program's AgesFromGap returns what the reference's returns, for all arguments. No condition. -/
import Derived.Test.YtkjmiamldajcbaaPx11
import Derived.Test.YtkjmiamldajcbaaPrB
namespace Go.Proofs.Ytkjmiamldajcbaa.Pure
open Go.RowKit Go.Proofs.Ytkjmiamldajcbaa.P Go.Proofs.Ytkjmiamldajcbaa.Pr Go.Proofs.YtkjmiamldajcbaaW.PrintWords Go.Proofs.Ytkjmiamldajcbaa.E Go.Proofs.Ytkjmiamldajcbaa.Mth
namespace AgesFromGap
def val (a p q : Int) : Int × Int × Int × Bool := if (-120 ≤ a ∧ a ≤ 120) ∧ good p q = true ∧ 0 < a * (p - q) then ((three (a * p) (a * q) (p - q)).1, (three (a * p) (a * q) (p - q)).2.1, (three (a * p) (a * q) (p - q)).2.2, true) else (0, 0, 0, false)
theorem spec_ (a p q : Int) : Ev (fun k => spec_AgesFromGap.f k a p q) (val a p q) := by
  unfold spec_AgesFromGap.f val
  refine call (l1In _ _ _) ?_
  by_cases h1 : -120 ≤ a ∧ a ≤ 120
  · refine ifp (by simpa using h1) ?_
    by_cases h0 : a = 0
    · refine ifp h0 ?_
      rw [if_neg (by subst h0; simp)]; exact now
    · refine ifn h0 (call (raGood p q) ?_)
      by_cases h2 : good p q = true
      · refine ifp h2 ?_
        have hb := (good_iff p q).1 h2
        have m1 := mulb (p - q) a 100 120 (by omega) (by omega)
        have m2 := mulb a p 120 100 (by omega) (by omega)
        have m3 := mulb a q 120 100 (by omega) (by omega)
        rw [w64 (p - q) (by omega), w64 ((p - q) * a) (by omega), w64 (a * p) (by omega), w64 (a * q) (by omega), Int.mul_comm (p - q) a]
        by_cases h3 : a * (p - q) ≤ 0
        · refine ifp h3 ?_
          rw [if_neg (by omega)]; exact now
        · have hd : p - q ≠ 0 := by intro e; rw [e] at h3; simp at h3
          refine ifn h3 (Ev.bind (raThree _ _ _ (by omega) (by omega) (by omega) hd) ?_)
          rw [if_pos ⟨h1, h2, by omega⟩]; exact now
      · refine ifn h2 ?_
        rw [if_neg (by intro h; exact h2 h.2.1)]; exact now
  · refine ifn (by simpa using h1) ?_
    rw [if_neg (by intro h; exact h1 h.1)]; exact now
theorem impl_ (a p q : Int) : Ev (fun k => impl_AgesFromGap.f k a p q) (val a p q) := by
  unfold impl_AgesFromGap.f val
  refine call (between _ _ _) ?_
  by_cases h1 : -120 ≤ a ∧ a ≤ 120
  · refine ifp (by simpa using h1) (call (isRatio p q) ?_)
    by_cases h2 : good p q = true
    · refine ifp h2 ?_
      have hb := (good_iff p q).1 h2
      have m1 := mulb a (p - q) 120 100 (by omega) (by omega)
      have m2 := mulb a p 120 100 (by omega) (by omega)
      have m3 := mulb a q 120 100 (by omega) (by omega)
      rw [w64 (p - q) (by omega), w64 (a * (p - q)) (by omega), w64 (a * p) (by omega), w64 (a * q) (by omega)]
      by_cases h3 : a * (p - q) ≤ 0
      · refine ifp h3 ?_
        rw [if_neg (by omega)]; exact now
      · have hd : p - q ≠ 0 := by intro e; rw [e] at h3; simp at h3
        refine ifn h3 (Ev.bind (twoAges _ _ _ (by omega) (by omega) (by omega) hd) ?_)
        rw [if_pos ⟨h1, h2, by omega⟩]; exact now
    · refine ifn h2 ?_
      rw [if_neg (by intro h; exact h2 h.2.1)]; exact now
  · refine ifn (by simpa using h1) ?_
    rw [if_neg (by intro h; exact h1 h.1)]; exact now
end AgesFromGap
theorem FnExactAgesFromGap : laws_FnExactAgesFromGap.Pure := by
  intro a p q _ _ _
  refine Ev.rounds ?_
  unfold laws_FnExactAgesFromGap.f
  refine call (toRatio p q) (Ev.bind (AgesFromGap.spec_ a p q) (call (toRatio p q) (Ev.bind (AgesFromGap.impl_ a p q) ?_)))
  exact ifp rfl (ifp rfl (ifp rfl (ifn (by simp) now)))
end Go.Proofs.Ytkjmiamldajcbaa.Pure
