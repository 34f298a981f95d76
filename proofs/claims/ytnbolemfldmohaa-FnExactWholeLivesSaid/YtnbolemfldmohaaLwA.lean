/- Closed forms of the small functions of chapters 1 and 7 that both sides use. No condition. -/
import Derived.Test.YtnbolemfldmohaaPx5
import Derived.Test.YtnbolemfldmohaaPx1
import Derived.Test.YtnbolemfldmohaaPx2
import Derived.Test.YtnbolemfldmohaaEv
namespace Go.Proofs.Ytnbolemfldmohaa.Pr
open Go.RowKit Go.Proofs.Ytnbolemfldmohaa.P Go.Proofs.YtnbolemfldmohaaW.PrintWords
theorem l1In (a lo hi : Int) : spec_l1In.f a lo hi = some (decide (lo ≤ a ∧ a ≤ hi)) := by
  unfold spec_l1In.f
  by_cases h : a ≥ lo
  · rw [if_pos h]; congr 1; simp; omega
  · rw [if_neg h]; congr 1; simp; omega
theorem between (a lo hi : Int) : impl_between.f a lo hi = some (decide (lo ≤ a ∧ a ≤ hi)) := l1In a lo hi
def good (a b : Int) : Bool := decide ((1 ≤ a ∧ a ≤ 100) ∧ 1 ≤ b ∧ b ≤ 100)
theorem isRatio (a b : Int) : impl_IsRatio.f a b = some (good a b) := by
  unfold impl_IsRatio.f good
  simp only [between, Option.bind_some]
  by_cases h : 1 ≤ a ∧ a ≤ 100 <;> simp [h]
theorem raGood (a b : Int) : spec_raGood.f a b = some (good a b) := isRatio a b
theorem toRatio (a b : Int) : laws_toRatio.f a b = some (a, b) := rfl
theorem good_iff (a b : Int) : good a b = true ↔ 1 ≤ a ∧ a ≤ 100 ∧ 1 ≤ b ∧ b ≤ 100 := by unfold good; simp; omega
end Go.Proofs.Ytnbolemfldmohaa.Pr
