/- The program's LifeOf tells what the reference's tells, for all parts and years, and leaves what it is handed. No condition. -/
import Derived.Test.YtnbolemfldmohaaPx6
import Derived.Test.YtnbolemfldmohaaRlL
namespace Go.Proofs.Ytnbolemfldmohaa.Pure
open Go.RowKit Go.Proofs.Ytnbolemfldmohaa.P Go.Proofs.Ytnbolemfldmohaa.Pr Go.Proofs.Ytnbolemfldmohaa.E Go.Proofs.YtnbolemfldmohaaW.PrintWords
theorem FnExactLifeOf : laws_FnExactLifeOf.Pure := by
  intro l a hl hb _ _
  refine Ev.rounds ?_
  unfold laws_FnExactLifeOf.f
  refine call (szRatioS l (by omega)) ?_
  by_cases hs : l.length ≤ 1048576
  · have hl' : l.length ≤ 1099511627776 := by omega
    have hcl : (conv l).length ≤ 1048576 := by rw [conv_length]; exact hs
    have hc' : (conv l).length ≤ 1099511627776 := by omega
    rw [if_pos hs]
    refine ifn (by omega) ?_
    obtain ⟨v, _, e1, e2⟩ := LifeOf_both (conv l) (by omega) a
    refine Ev.bind (toRatioS l hl') (Ev.bind e1 (Ev.bind (toRatioS l hl') (Ev.bind e2 ?_)))
    refine ifp rfl (ifp rfl ?_)
    refine Ev.step (f := fun k => _) (fun k => by rw [laws_FnExactLifeOf.j0]) (ifn (by simp) ?_)
    exact Ev.bind (toRatioS l hl') (Ev.bind (eqRatioS (conv l) hc') (ifp rfl now))
  · rw [if_neg hs]
    exact ifp (by omega) now
end Go.Proofs.Ytnbolemfldmohaa.Pure
