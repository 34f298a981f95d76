/- The program's AgesFromTwo returns what the reference's returns, for all arguments. No condition. -/
import Derived.Test.YtkjmiamldajcbaaPx16
import Derived.Test.YtkjmiamldajcbaaPrT
namespace Go.Proofs.Ytkjmiamldajcbaa.Pure
open Go.RowKit Go.Proofs.Ytkjmiamldajcbaa.P Go.Proofs.Ytkjmiamldajcbaa.Pr Go.Proofs.YtkjmiamldajcbaaW.PrintWords Go.Proofs.Ytkjmiamldajcbaa.E Go.Proofs.Ytkjmiamldajcbaa.Mth
namespace AgesFromTwo
theorem impl_ (p q u v y : Int) : Ev (fun k => impl_AgesFromTwo.f k p q u v y) (if okTwo p q u v y then twoV p q u v y else (0, 0, 0, false)) := by
  unfold impl_AgesFromTwo.f
  have no : ¬ okTwo p q u v y → Ev (fun _ => some ((0, 0, 0, false) : Int × Int × Int × Bool)) (if okTwo p q u v y then twoV p q u v y else (0, 0, 0, false)) := fun h => by
    rw [if_neg h]; exact now
  refine call (isRatio p q) ?_
  by_cases h1 : good p q = true
  · refine ifp h1 (call (isRatio u v) ?_)
    by_cases h2 : good u v = true
    · refine ifp h2 (call (between y _ _) ?_)
      by_cases h3 : -120 ≤ y ∧ y ≤ 120
      · refine ifp (by simpa using h3) ?_
        by_cases h4 : y = 0
        · exact ifp h4 (no fun h => h.2.2.2 h4)
        · refine ifn h4 ?_
          rw [if_pos ⟨h1, h2, h3, h4⟩]
          exact Ev.bind (impl_two p q u v y h1 h2 (by omega)) now
      · exact ifn (by simpa using h3) (no fun h => h3 h.2.2.1)
    · exact ifn h2 (no fun h => h2 h.2.1)
  · exact ifn h1 (no fun h => h1 h.1)
end AgesFromTwo
theorem FnExactAgesFromTwo : laws_FnExactAgesFromTwo.Pure := by
  intro p q u v y _ _ _ _ _
  refine Ev.rounds ?_
  unfold laws_FnExactAgesFromTwo.f
  refine call (toRatio p q) (call (toRatio u v) (Ev.bind (spec_Two p q u v y) (call (toRatio p q) (call (toRatio u v) (Ev.bind (AgesFromTwo.impl_ p q u v y) ?_)))))
  exact ifp rfl (ifp rfl (ifp rfl (ifn (by simp) now)))
end Go.Proofs.Ytkjmiamldajcbaa.Pure
