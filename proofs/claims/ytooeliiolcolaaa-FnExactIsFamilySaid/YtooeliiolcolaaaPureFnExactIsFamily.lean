/- The program's IsFamily tells what the reference's tells, for every list, and leaves what it is handed. No condition. -/
import Derived.Test.YtooeliiolcolaaaPx8
import Derived.Test.YtooeliiolcolaaaPx2
import Derived.Test.YtooeliiolcolaaaPx7
import Derived.Test.YtooeliiolcolaaaFaB
namespace Go.Proofs.Ytooeliiolcolaaa.Pure
open Go.RowKit Go.Proofs.Ytooeliiolcolaaa.P Go.Proofs.Ytooeliiolcolaaa.Pr Go.Proofs.Ytooeliiolcolaaa.E Go.Proofs.YtooeliiolcolaaaW.PrintWords
theorem IsFamily_both (l : List Kn) (hl : l.length ≤ 1048576) : ∃ v, Ev (fun k => spec_IsFamily.f k l) v ∧ Ev (fun k => impl_IsFamily.f k l) v := by
  unfold spec_IsFamily.f
  exact ⟨good l, Ev.bind (faGood l (by omega)) now, isFamily l (by omega)⟩
theorem FnExactIsFamily : laws_FnExactIsFamily.Pure := by
  intro l hl hb _
  refine Ev.rounds ?_
  unfold laws_FnExactIsFamily.f
  refine call (szKinS l (by omega)) ?_
  by_cases hs : l.length ≤ 1048576
  · have hl' : l.length ≤ 1099511627776 := by omega
    have hcl : (conv l).length ≤ 1048576 := by rw [conv_length]; exact hs
    have hc' : (conv l).length ≤ 1099511627776 := by omega
    rw [if_pos hs]
    refine ifn (by omega) ?_
    obtain ⟨v, e1, e2⟩ := IsFamily_both (conv l) hcl
    refine Ev.bind (toKinS l hl') (Ev.bind e1 (Ev.bind (toKinS l hl') (Ev.bind e2 ?_)))
    refine ifn (by simp) ?_
    exact Ev.bind (toKinS l hl') (Ev.bind (eqKinS (conv l) hc') (ifp rfl now))
  · rw [if_neg hs]
    exact ifp (by omega) now
end Go.Proofs.Ytooeliiolcolaaa.Pure
