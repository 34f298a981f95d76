/- The program's GenerationOf tells what the reference's tells, for every family and any of it, and leaves what it is handed. No condition. -/
import Derived.Test.YtooeliiolcolaaaPx12
import Derived.Test.YtooeliiolcolaaaPx8
import Derived.Test.YtooeliiolcolaaaFaG
namespace Go.Proofs.Ytooeliiolcolaaa.Pure
open Go.RowKit Go.Proofs.Ytooeliiolcolaaa.P Go.Proofs.Ytooeliiolcolaaa.Pr Go.Proofs.Ytooeliiolcolaaa.E Go.Proofs.YtooeliiolcolaaaW.PrintWords
theorem GenerationOf_both (l : List Kn) (hl : l.length ≤ 1048576) (a : Int) : ∃ v, Ev (fun k => spec_GenerationOf.f k l a) v ∧ Ev (fun k => impl_GenerationOf.f k l a) v := by
  unfold spec_GenerationOf.f impl_GenerationOf.f
  by_cases h : good l = true ∧ inR l a = true
  · have hr := (inR_iff l a).1 h.2
    have hf := (good_iff l).1 h.1
    have hw := faWho l (by omega) a
    rw [h.1, h.2] at hw
    have hk := hasKin l (by omega) [a]
    rw [h.1, show ([a] : List Int).all (inR l) = true by simp [h.2]] at hk
    refine ⟨(rd (gens l l.length) a, true), Ev.bind hw (ifp rfl ?_), Ev.bind hk (ifp rfl ?_)⟩
    · exact Ev.bind (faGenerations l hf) (ifp hr.1 (ifp (by rw [gens_len]; exact hr.2) now))
    · exact Ev.bind (generation l hf a hr) now
  · have hn : (good l && inR l a) = false := by
      rw [Bool.eq_false_iff]
      intro h2
      exact h (Bool.and_eq_true_iff.1 h2)
    have hw := faWho l (by omega) a
    rw [hn] at hw
    have hk := hasKin l (by omega) [a]
    rw [show ([a] : List Int).all (inR l) = inR l a by simp, hn] at hk
    exact ⟨(0, false), Ev.bind hw (ifn (by simp) now), Ev.bind hk (ifn (by simp) now)⟩
theorem FnExactGenerationOf : laws_FnExactGenerationOf.Pure := by
  intro l a hl hb _ _
  refine Ev.rounds ?_
  unfold laws_FnExactGenerationOf.f
  refine call (szKinS l (by omega)) ?_
  by_cases hs : l.length ≤ 1048576
  · have hl' : l.length ≤ 1099511627776 := by omega
    have hcl : (conv l).length ≤ 1048576 := by rw [conv_length]; exact hs
    have hc' : (conv l).length ≤ 1099511627776 := by omega
    rw [if_pos hs]
    refine ifn (by omega) ?_
    obtain ⟨v, e1, e2⟩ := GenerationOf_both (conv l) hcl a
    refine Ev.bind (toKinS l hl') (Ev.bind e1 (Ev.bind (toKinS l hl') (Ev.bind e2 ?_)))
    refine ifp rfl ?_
    refine Ev.step (f := fun k => _) (fun k => by rw [laws_FnExactGenerationOf.j0]) (ifn (by simp) ?_)
    exact Ev.bind (toKinS l hl') (Ev.bind (eqKinS (conv l) hc') (ifp rfl now))
  · rw [if_neg hs]
    exact ifp (by omega) now
end Go.Proofs.Ytooeliiolcolaaa.Pure
