/- The program's AgesFromSum returns what the reference's returns, for all arguments. No condition. -/
import Derived.Test.YtkjmiamldajcbaaPx11
import Derived.Test.YtkjmiamldajcbaaPrB
namespace Go.Proofs.Ytkjmiamldajcbaa.Pure
open Go.RowKit Go.Proofs.Ytkjmiamldajcbaa.P Go.Proofs.Ytkjmiamldajcbaa.Pr Go.Proofs.YtkjmiamldajcbaaW.PrintWords Go.Proofs.Ytkjmiamldajcbaa.E Go.Proofs.Ytkjmiamldajcbaa.Mth
namespace AgesFromSum
def val (a p q : Int) : Int × Int × Int × Bool := if (1 ≤ a ∧ a ≤ 1000) ∧ good p q = true then ((three (a * p) (a * q) (p + q)).1, (three (a * p) (a * q) (p + q)).2.1, (three (a * p) (a * q) (p + q)).2.2, true) else (0, 0, 0, false)
theorem spec_ (a p q : Int) : Ev (fun k => spec_AgesFromSum.f k a p q) (val a p q) := by
  unfold spec_AgesFromSum.f val
  refine call (l1In _ _ _) ?_
  by_cases h1 : 1 ≤ a ∧ a ≤ 1000
  · refine ifp (by simpa using h1) (call (raGood p q) ?_)
    by_cases h2 : good p q = true
    · refine ifp h2 ?_
      have hb := (good_iff p q).1 h2
      have m2 := mulb a p 1000 100 (by omega) (by omega)
      have m3 := mulb a q 1000 100 (by omega) (by omega)
      rw [w64 (p + q) (by omega), w64 (a * p) (by omega), w64 (a * q) (by omega)]
      refine Ev.bind (raThree _ _ _ (by omega) (by omega) (by omega) (by omega)) ?_
      rw [if_pos ⟨h1, h2⟩]; exact now
    · refine ifn h2 ?_
      rw [if_neg (by intro h; exact h2 h.2)]; exact now
  · refine ifn (by simpa using h1) ?_
    rw [if_neg (by intro h; exact h1 h.1)]; exact now
theorem impl_ (a p q : Int) : Ev (fun k => impl_AgesFromSum.f k a p q) (val a p q) := by
  unfold impl_AgesFromSum.f val
  refine call (between _ _ _) ?_
  by_cases h1 : 1 ≤ a ∧ a ≤ 1000
  · refine ifp (by simpa using h1) (call (isRatio p q) ?_)
    by_cases h2 : good p q = true
    · refine ifp h2 ?_
      have hb := (good_iff p q).1 h2
      have m2 := mulb a p 1000 100 (by omega) (by omega)
      have m3 := mulb a q 1000 100 (by omega) (by omega)
      rw [w64 (p + q) (by omega), w64 (a * p) (by omega), w64 (a * q) (by omega)]
      refine Ev.bind (twoAges _ _ _ (by omega) (by omega) (by omega) (by omega)) ?_
      rw [if_pos ⟨h1, h2⟩]; exact now
    · refine ifn h2 ?_
      rw [if_neg (by intro h; exact h2 h.2)]; exact now
  · refine ifn (by simpa using h1) ?_
    rw [if_neg (by intro h; exact h1 h.1)]; exact now
end AgesFromSum
theorem FnExactAgesFromSum : laws_FnExactAgesFromSum.Pure := by
  intro a p q _ _ _
  refine Ev.rounds ?_
  unfold laws_FnExactAgesFromSum.f
  refine call (toRatio p q) (Ev.bind (AgesFromSum.spec_ a p q) (call (toRatio p q) (Ev.bind (AgesFromSum.impl_ a p q) ?_)))
  exact ifp rfl (ifp rfl (ifp rfl (ifn (by simp) now)))
end Go.Proofs.Ytkjmiamldajcbaa.Pure
