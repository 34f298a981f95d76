/- The program's TurnRatio returns what the reference's returns, for all arguments. No condition. -/
import Derived.Test.YtkjmiamldajcbaaPx1
import Derived.Test.YtkjmiamldajcbaaPrA
namespace Go.Proofs.Ytkjmiamldajcbaa.Pure
open Go.RowKit Go.Proofs.Ytkjmiamldajcbaa.P Go.Proofs.Ytkjmiamldajcbaa.Pr Go.Proofs.YtkjmiamldajcbaaW.PrintWords
theorem FnExactTurnRatio : laws_FnExactTurnRatio.Pure := by
  intro a b _ _
  simp only [laws_FnExactTurnRatio.f, toRatio, spec_TurnRatio.f, impl_TurnRatio.f, raGood, isRatio, Option.bind_some]
  cases good a b <;> simp [laws_eqRatio.f]
end Go.Proofs.Ytkjmiamldajcbaa.Pure
