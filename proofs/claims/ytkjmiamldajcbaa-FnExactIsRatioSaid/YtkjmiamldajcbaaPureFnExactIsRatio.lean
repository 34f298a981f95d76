/- The program's IsRatio returns what the reference's returns, for all arguments. No condition. -/
import Derived.Test.YtkjmiamldajcbaaPx1
import Derived.Test.YtkjmiamldajcbaaPrA
namespace Go.Proofs.Ytkjmiamldajcbaa.Pure
open Go.RowKit Go.Proofs.Ytkjmiamldajcbaa.P Go.Proofs.Ytkjmiamldajcbaa.Pr Go.Proofs.YtkjmiamldajcbaaW.PrintWords
theorem FnExactIsRatio : laws_FnExactIsRatio.Pure := by
  intro a b _ _
  simp only [laws_FnExactIsRatio.f, toRatio, spec_IsRatio.f, raGood, isRatio, Option.bind_some]
  simp
end Go.Proofs.Ytkjmiamldajcbaa.Pure
