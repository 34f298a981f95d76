/- The program's MostChildren tells what the reference's tells, for every family, and leaves what it is handed. No condition. -/
import Derived.Test.YtooeliiolcolaaaPx7
import Derived.Test.YtooeliiolcolaaaPx2
import Derived.Test.YtooeliiolcolaaaFaM
import Derived.Test.YtooeliiolcolaaaFaB
namespace Go.Proofs.Ytooeliiolcolaaa.Pure
open Go.RowKit Go.Proofs.Ytooeliiolcolaaa.P Go.Proofs.Ytooeliiolcolaaa.Pr Go.Proofs.Ytooeliiolcolaaa.E Go.Proofs.YtooeliiolcolaaaW.PrintWords
theorem MostChildren_both (l : List Kn) (hl : l.length ≤ 1048576) : ∃ v, Ev (fun k => spec_MostChildren.f k l) v ∧ Ev (fun k => impl_MostChildren.f k l) v := by
  unfold spec_MostChildren.f impl_MostChildren.f
  have hw := faGood l (by omega)
  have hk := isFamily l (by omega)
  cases h : good l with
  | true =>
    have hf := (good_iff l).1 h
    rw [h] at hw hk
    obtain ⟨v, e1, e2⟩ := most_l l (by omega) _ 0 0 (-1) (by omega) (Nat.le_refl _)
    exact ⟨v, Ev.bind hw (ifp rfl e1), Ev.bind hk (ifp rfl e2)⟩
  | false =>
    rw [h] at hw hk
    exact ⟨(0, 0, false), Ev.bind hw (ifn (by simp) now), Ev.bind hk (ifn (by simp) now)⟩
theorem FnExactMostChildren : laws_FnExactMostChildren.Pure := by
  intro l hl hb _
  refine Ev.rounds ?_
  unfold laws_FnExactMostChildren.f
  refine call (szKinS l (by omega)) ?_
  by_cases hs : l.length ≤ 1048576
  · have hl' : l.length ≤ 1099511627776 := by omega
    have hcl : (conv l).length ≤ 1048576 := by rw [conv_length]; exact hs
    have hc' : (conv l).length ≤ 1099511627776 := by omega
    rw [if_pos hs]
    refine ifn (by omega) ?_
    obtain ⟨v, e1, e2⟩ := MostChildren_both (conv l) hcl
    refine Ev.bind (toKinS l hl') (Ev.bind e1 (Ev.bind (toKinS l hl') (Ev.bind e2 ?_)))
    refine ifp rfl <| ifp rfl ?_
    refine Ev.step (f := fun k => _) (fun k => by rw [laws_FnExactMostChildren.j0]) (ifn (by simp) ?_)
    exact Ev.bind (toKinS l hl') (Ev.bind (eqKinS (conv l) hc') (ifp rfl now))
  · rw [if_neg hs]
    exact ifp (by omega) now
end Go.Proofs.Ytooeliiolcolaaa.Pure
